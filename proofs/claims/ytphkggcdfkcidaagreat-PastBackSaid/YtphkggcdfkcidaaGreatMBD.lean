/- The walk of the law package pentimentolaw26: PastBack. -/
import Derived.Test.YtphkggcdfkcidaaGreatMBC
import Derived.Test.YtphkggcdfkcidaaGreatMAM
import Derived.Deep.CutBlock

namespace Go.Proofs.YtphkggcdfkcidaaGreat
open Go.RowKit Go.Conc

set_option maxRecDepth 100000 in
set_option maxHeartbeats 40000000 in
theorem law_back_in (key : Sp.Bs) (hkey : 1 ≤ key.length ∧ key.length ≤ 48) (l : List Sp.Stp) (h1 : 1 ≤ l.length) (hz : hzB l = false) (htx : ∀ x ∈ l, x.tx < 256) (fr aq as_ tx cap : Nat) (hfr : fr < 256) (haq : aq < 4294967296) (has : as_ < 65536) (hx : tx < 18446744073709551616) (A : Option Addr) (w : World)
    (hR : StpsAt (fun b => b < w.heap.size) w A l) :
    Calls Tryz.prog 3 #[str key, .slice A l.length cap, .int .u8 fr, .agg #[.int .u32 aq, .int .u16 as_], .int .u64 tx] w fun e w' => e = .returned (.bool true) ∧ Below w.heap.size w w' := by
  obtain ⟨h10, hs⟩ := hz_small hz
  have hb0 := (Below.refl w.heap.size w).alloc (Nat.le_refl _) (.cells #[.int .u32 aq, .int .u16 as_] 26)
  have hR1 := StpsAt.keep2 hR hb0
  have HZ := Lib.hid (law26_heavy A cap l (by omega) (fun x hx => by have := hs x hx; omega) _ _ hR1)
  rw [hz] at HZ
  have HST := Lib.hid (law_story key hkey l h1 h10 htx hs _ A cap _ hR1)
  have HW := Lib.hid fun (W : World) => law26_works W
  have HKEY := Lib.hid hkey
  have hVb := Blk.new w 26 #[.int .u32 aq, .int .u16 as_]
  have d2 : ((l.length : Int) == 0) = false := by rw [beq_eq_false_iff_ne]; omega
  have d2b : decide ((l.length : Int) = 0) = false := by rw [decide_eq_false_iff_not]; omega
  have d3 : decide ((key.length : Int) < 1) = false := by rw [decide_eq_false_iff_not]; omega
  have d4 : decide ((48 : Int) < (key.length : Int)) = false := by rw [decide_eq_false_iff_not]; omega
  clear hR hR1 hs htx hz hkey
  go_enter Tryz.func3, Tryz.ntmps3
  go_wp2_with fail
  generalize hw1 : World.alloc w _ = w1 at hb0 HZ HST hVb ⊢
  refine HZ.out.mono ?_
  rintro e w1' ⟨rfl, hw1'⟩
  subst w1'
  clear hw1
  go_wp2_with fail
  refine HST.out.mono ?_
  rintro e w2 ⟨vr, bp, cp, rfl, hsto, hb2⟩
  obtain ⟨hpgs, hbp⟩ := hsto.pgs
  obtain ⟨gv, cv, rfl, hgv, hrows⟩ := hsto.rows h1
  obtain ⟨pg, hpgE⟩ : ∃ pg, pg = Sp.stPg key l l.length := ⟨_, rfl⟩
  have hok : PgOk pg := fun q q1 q6 => by rw [hpgE]; exact Sp.stPg_ok HKEY.out h10 (Nat.le_refl _) q1 q6
  rw [← hpgE] at hpgs
  have HLD := Lib.hid (law_laid pg hok bp 0 cp w2 hbp hpgs)
  have HPE := Lib.hid hpgE
  have HPG := Lib.hid hpgs
  have hbw2 : Below w.heap.size w w2 := hb0.trans (hb2.mono hb0.size)
  have hVb2 := hVb.below hb2 hVb.lt
  clear HST HZ hsto hb2 hpgs hpgE hok hVb hb0
  go_wp2_with fail
  refine HLD.out.mono ?_
  rintro e w3 ⟨gP, gr, gd, gl, gp, rfl, hPl, hb3, hL⟩
  have hgVl := hVb2.lt
  have hszw := hbw2.size
  have HBK := Lib.hid fun (i : Nat) (hi : i < l.length) => sto_back (key := key) (l := l) HKEY.out h10 (pg := pg) hi (by rw [HPE.out]) gd gl gp
  have HI := Lib.hid (show LawB (fun b => b < w2.heap.size ∨ b = gP) w3 gP gd gl gp gr gv l.length (Sp.stRow key l) w.heap.size aq as_ from
    ⟨⟨hPl, fun i hi j hj => (World.cell?_of_block (a := ⟨gv, i * 7 + j, none⟩) (hb3.block gv hgv)).trans (hrows i hi j hj), .inr rfl, .inl hgv⟩, hVb2.below hb3 hgVl, .inl hgVl⟩)
  have HP := Lib.hid (show LzAt pg (fun b => b < w2.heap.size ∨ b = gP) w3 gd gl gp from ⟨[], hL, by simp⟩)
  have hbw3 := hbw2.trans (hb3.mono hbw2.size)
  have HK0 := Lib.hid (show ∀ b, b < w.heap.size → (fun b => b < w2.heap.size ∨ b = gP) b from fun b hb => .inl (Nat.lt_of_lt_of_le hb hbw2.size))
  have HKV := Lib.hid (show ∀ b, b < w2.heap.size → (fun b => b < w2.heap.size ∨ b = gP) b from fun b hb => .inl hb)
  have HST3 := Lib.hid (show Below w2.heap.size w2 w3 from hb3)
  clear HLD hPl hb3 hL hrows hbw2 hVb2 hgVl
  have wr8 : IntKind.i64.wrap (fr : Int) = fr := by rw [IntKind.wrap_i64]; omega
  go_upto_region 8 with fail
  obtain ⟨k, hk⟩ : ∃ k, k = fr % l.length := ⟨_, rfl⟩
  have hkl : k < l.length := by rw [hk]; exact Nat.mod_lt _ (by omega)
  rw [show (fr : Int) % (l.length : Int) = (k : Int) by rw [hk]; simp]
  clear hk wr8 d2 d2b d3 d4
  obtain ⟨gT, hgT⟩ : ∃ g, g = w.heap.size := ⟨_, rfl⟩
  rw [← hgT] at HI
  rw [show (Value.pointer (some ⟨w.heap.size, 0, none⟩)) = ptr gT by rw [hgT]]
  clear hgT
  have HBW := Lib.hid hbw3
  clear hbw3
  obtain ⟨o, ho⟩ : ∃ o : Option Sp.Rw, o = if k = 0 then none else some (Sp.stRow key l (k - 1)) := ⟨_, rfl⟩
  have HC : Hid (BackC pg gd gl gp (Sp.stRow key l k) (Sp.orZ o) o.isSome 0) := Lib.hid (backC_of (HBK.out k hkl) ho)
  have HO := Lib.hid ho
  clear ho
  go_cut [15, 16, 17] (fun va vb ve wx => CallAt pg (fun b => b < w2.heap.size ∨ b = gP) w3 gd gl gp (Sp.orZ o) va wx ∧ vb = .bool o.isSome ∧ ve = .int .i64 0)
  case first =>
    go_wp2_with fail
    have hS0 := Lib.hid (LawB.s HI.out hkl)
    refine R_begin (fun (W : World) => W.cell? ⟨gP, 2, none⟩ = some (ptr gp) ∧ W.cell? ⟨gv, k * 7, none⟩ = some (str (Sp.stRow key l k).key) ∧ W.cell? ⟨gv, k * 7 + 1, none⟩ = some (.bool (Sp.stRow key l k).mark) ∧ W.cell? ⟨gv, k * 7 + 2, none⟩ = some (.int .u64 (Sp.stRow key l k).tx) ∧ W.cell? ⟨gv, k * 7 + 3, none⟩ = some (.int .u32 (Sp.stRow key l k).page) ∧ W.cell? ⟨gv, k * 7 + 4, none⟩ = some (.int .u16 (Sp.stRow key l k).slot) ∧ W.cell? ⟨gv, k * 7 + 5, none⟩ = some (str (Sp.stRow key l k).value) ∧ W.cell? ⟨gv, k * 7 + 6, none⟩ = some (.int .i64 (Sp.stRow key l k).pad)) (fun _ => false) rfl ?_
    refine R_tk 0 65 hS0.out ?_
    refine R_tk 1 66 hS0.out ?_
    refine R_tk 2 67 hS0.out ?_
    refine R_tk 3 68 hS0.out ?_
    refine R_tk 4 69 hS0.out ?_
    refine R_tk 5 70 hS0.out ?_
    refine R_tk 6 71 hS0.out ?_
    refine R_tk 7 72 hS0.out ?_
    simp only [List.setIfInBounds_toArray, List.set_cons_zero, List.set_cons_succ]
    refine R_all (rs := [8, 13]) (by kernel_rfl) (by simp) (fun i hi => ?_)
    simp only [List.mem_cons, List.not_mem_nil, or_false] at hi
    rcases hi with rfl | rfl
    · skip
      have hc := HC.out (fun b => b < w2.heap.size ∨ b = gP) _ HP.out.drew
      refine op_call 73 (w' := w3.drew) rfl rfl (by rfl) ?_ hc ?_
      · go_simp
      rintro e v1 ⟨rfl, hk1, hp1⟩
      have hi1 := HI.out.kept (Kept.undrew hk1)
      have hS1 := Lib.hid (LawB.s hi1 hkl)
      refine ⟨_, rfl, fun _ => hS1.out, ?_⟩
      simp only [List.setIfInBounds_toArray, List.set_cons_zero, List.set_cons_succ]
      clear hc
      refine R_tk 9 64 hS1.out ?_
      refine R_tk 10 74 hS1.out ?_
      refine R_tk 11 75 hS1.out ?_
      refine R_tk 12 76 hS1.out ?_
      simp only [List.setIfInBounds_toArray, List.set_cons_zero, List.set_cons_succ]
      have hi2 := hi1.kept (Kept.of_below ((Below.refl v1.heap.size v1).alloc (Nat.le_refl _) (.cells rwZ 37)) hp1.lt)
      have hS2 := Lib.hid (LawB.s hi2 hkl)
      refine R_run 13 15 (v := ptr v1.heap.size) (w' := v1.alloc (.cells rwZ 37)) rfl rfl (by rfl) (by kernel_rfl) ?_ (fun _ => hS2.out) ?_
      · first | (go_simp; done) | (go_simp; rfl)
      simp only [List.setIfInBounds_toArray, List.set_cons_zero, List.set_cons_succ]
      have hn := Blk.new v1 37 rwZ
      have hca := callAt_1 (Kept.undrew hk1) hp1 (Sp.orZ o)
      have hS3 := Lib.hid (show (fun (W : World) => W.cell? ⟨gP, 2, none⟩ = some (ptr gp) ∧ W.cell? ⟨gv, k * 7, none⟩ = some (str (Sp.stRow key l k).key) ∧ W.cell? ⟨gv, k * 7 + 1, none⟩ = some (.bool (Sp.stRow key l k).mark) ∧ W.cell? ⟨gv, k * 7 + 2, none⟩ = some (.int .u64 (Sp.stRow key l k).tx) ∧ W.cell? ⟨gv, k * 7 + 3, none⟩ = some (.int .u32 (Sp.stRow key l k).page) ∧ W.cell? ⟨gv, k * 7 + 4, none⟩ = some (.int .u16 (Sp.stRow key l k).slot) ∧ W.cell? ⟨gv, k * 7 + 5, none⟩ = some (str (Sp.stRow key l k).value) ∧ W.cell? ⟨gv, k * 7 + 6, none⟩ = some (.int .i64 (Sp.stRow key l k).pad)) _ from LawB.s (HI.out.kept hca.choose_spec.2.2.2.1) hkl)
      (try simp only [List.setIfInBounds_toArray, List.set_cons_zero, List.set_cons_succ])
      refine R_store 14 (n := .skip) (w' := (v1.alloc (.cells rwZ 37)).setRow v1.heap.size (Sp.orZ o)) rfl rfl (by rfl) (by kernel_rfl) (run_op_store _ _ _ _ _ rfl rfl rfl (row_store7 hn (orZ_size _) (orZ_one _))) (.inl rfl) (fun _ => hS3.out) ?_
      refine R_tk 15 16 hS3.out ?_
      refine R_tk 16 17 hS3.out ?_
      simp only [List.setIfInBounds_toArray, List.set_cons_zero, List.set_cons_succ]
      refine R_done (by kernel_rfl) ?_ _
      rename_i K9 hK9
      refine hK9 _ _ ?_
      clear hK9
      go_meet
      case rel => exact ⟨hca, rfl, rfl⟩
    · skip
      obtain ⟨hp1, hk1, hn1⟩ := callAt_0 HP.out
      have hi1 := HI.out.kept hk1
      have hS1 := Lib.hid (LawB.s hi1 hkl)
      refine op_run 15 (v := ptr w3.heap.size) (w' := w3.drew.alloc (.cells rwZ 37)) rfl rfl (by rfl) ?_ ⟨fun _ => hS1.out, ?_⟩
      · first | (go_simp; done) | (go_simp; rfl)
      simp only [List.setIfInBounds_toArray, List.set_cons_zero, List.set_cons_succ]
      have hc := HC.out (fun b => (fun b => b < w2.heap.size ∨ b = gP) b ∨ b = w3.heap.size) _ hp1
      refine R_call 8 73 (w' := w3.drew.alloc (.cells rwZ 37)) rfl rfl (by rfl) (by kernel_rfl) ?_ hc ?_
      · go_simp
      rintro e v2 ⟨rfl, hk2, hp2⟩
      have hi2 := hi1.kept (hk2.mono (fun b hb => .inl hb))
      have hS2 := Lib.hid (LawB.s hi2 hkl)
      refine ⟨_, rfl, fun _ => hS2.out, ?_⟩
      simp only [List.setIfInBounds_toArray, List.set_cons_zero, List.set_cons_succ]
      clear hc
      refine R_tk 9 64 hS2.out ?_
      refine R_tk 10 74 hS2.out ?_
      refine R_tk 11 75 hS2.out ?_
      refine R_tk 12 76 hS2.out ?_
      have hca := callAt_2 HP.out hk2 hp2 (Sp.orZ o)
      have hS3 := Lib.hid (show (fun (W : World) => W.cell? ⟨gP, 2, none⟩ = some (ptr gp) ∧ W.cell? ⟨gv, k * 7, none⟩ = some (str (Sp.stRow key l k).key) ∧ W.cell? ⟨gv, k * 7 + 1, none⟩ = some (.bool (Sp.stRow key l k).mark) ∧ W.cell? ⟨gv, k * 7 + 2, none⟩ = some (.int .u64 (Sp.stRow key l k).tx) ∧ W.cell? ⟨gv, k * 7 + 3, none⟩ = some (.int .u32 (Sp.stRow key l k).page) ∧ W.cell? ⟨gv, k * 7 + 4, none⟩ = some (.int .u16 (Sp.stRow key l k).slot) ∧ W.cell? ⟨gv, k * 7 + 5, none⟩ = some (str (Sp.stRow key l k).value) ∧ W.cell? ⟨gv, k * 7 + 6, none⟩ = some (.int .i64 (Sp.stRow key l k).pad)) _ from LawB.s (HI.out.kept hca.choose_spec.2.2.2.1) hkl)
      (try simp only [List.setIfInBounds_toArray, List.set_cons_zero, List.set_cons_succ])
      refine R_store 14 (n := .skip) (w' := v2.setRow w3.heap.size (Sp.orZ o)) rfl rfl (by rfl) (by kernel_rfl) (run_op_store _ _ _ _ _ rfl rfl rfl (row_store7 (hn1.kept hk2 (.inr rfl)) (orZ_size _) (orZ_one _))) (.inl rfl) (fun _ => hS3.out) ?_
      refine R_tk 15 16 hS3.out ?_
      refine R_tk 16 17 hS3.out ?_
      simp only [List.setIfInBounds_toArray, List.set_cons_zero, List.set_cons_succ]
      refine R_done (by kernel_rfl) ?_ _
      rename_i K9 hK9
      refine hK9 _ _ ?_
      clear hK9
      go_meet
      case rel => exact ⟨hca, rfl, rfl⟩
  case rest =>
  obtain ⟨⟨g15, rfl, hg15, hp8, hk8, hge8⟩, rfl, rfl⟩ := hcut
  obtain ⟨w4, rfl⟩ : ∃ x : World, x = wc := ⟨_, rfl⟩
  replace HI := Lib.hid ((HI.out.kept hk8).mono (K' := fun b => (fun b => b < w2.heap.size ∨ b = gP) b ∨ b = g15) (fun b hb => .inl hb))
  replace HP := Lib.hid hp8
  replace HBW := Lib.hid (HBW.out.trans (hk8.below (fun b hb => HK0.out b hb)))
  replace HST3 := Lib.hid (HST3.out.trans (hk8.below (fun b hb => HKV.out b hb)))
  replace HK0 := Lib.hid (show ∀ b, b < w.heap.size → (fun b => (fun b => b < w2.heap.size ∨ b = gP) b ∨ b = g15) b from fun b hb => .inl (HK0.out b hb))
  replace HKV := Lib.hid (show ∀ b, b < w2.heap.size → (fun b => (fun b => b < w2.heap.size ∨ b = gP) b ∨ b = g15) b from fun b hb => .inl (HKV.out b hb))
  have G_g15 := Lib.hid hg15
  clear hg15 hp8 hk8 hge8 HC
  obtain ⟨os, hos⟩ : ∃ b : Bool, b = o.isSome := ⟨_, rfl⟩
  rw [← hos]
  have HOS := Lib.hid (show os = decide (k ≠ 0) by rw [hos, HO.out]; split <;> simp_all)
  clear hos
  go_upto_region 9 with fail
  go_cut [105] (fun v wx => v = .bool false ∧ ∃ n, wx = w4.drewN n)
  case first =>
    as_aux_lemma =>
      rename_i J9 K9 hJ9 hK9
      rcases Nat.eq_zero_or_pos k with hk0 | hk0
      · have eo : o = none := by rw [HO.out, if_pos hk0]
        have G := G_g15.out
        rw [eo] at G
        have a0 := (show Blk w4 g15 37 rwZ from G).cell 0
        have a1 := (show Blk w4 g15 37 rwZ from G).cell 1
        have a2 := (show Blk w4 g15 37 rwZ from G).cell 2
        have a3 := (show Blk w4 g15 37 rwZ from G).cell 3
        have a4 := (show Blk w4 g15 37 rwZ from G).cell 4
        have a5 := (show Blk w4 g15 37 rwZ from G).cell 5
        have a6 := (show Blk w4 g15 37 rwZ from G).cell 6
        simp only [List.getElem?_toArray, List.getElem?_cons_succ, List.getElem?_cons_zero] at a0 a1 a2 a3 a4 a5 a6
        have hz0 : ∀ W, (Instr.build 37 #[]).run Tryz.prog W = .ok rwZV W := fun W => by kernel_rfl
        have dk : decide ((0 : Int) < (k : Int)) = false := by rw [decide_eq_false_iff_not]; omega
        have dk2 : ¬ (0 : Int) < (k : Int) := by omega
        clear G
        obtain rfl : os = false := by rw [HOS.out]; simp [hk0]
        go_quiet (fail)
        refine hK9 _ _ ?_
        clear hK9
        go_meet
        case rel => exact ⟨rfl, _, rfl⟩
      · have eo : o = some (Sp.stRow key l (k - 1)) := by rw [HO.out, if_neg (by omega)]
        obtain ⟨k1, hk1⟩ : ∃ m, m = k - 1 := ⟨_, rfl⟩
        rw [← hk1] at eo
        have G := G_g15.out
        rw [eo] at G
        obtain ⟨a0, a1, a2, a3, a4, a5, a6⟩ := vrow_cells (r := Sp.stRow key l k1) G
        obtain ⟨_, s0, s1, s2, s3, s4, s5, s6⟩ := HI.out.s (i := k1) (by omega)
        have t0 : w4.cell? ⟨gv, (k - 1) * 7, none⟩ = some (str (Sp.stRow key l k1).key) := by rw [← hk1]; exact s0
        have t1 : w4.cell? ⟨gv, (k - 1) * 7 + 1, none⟩ = some (.bool (Sp.stRow key l k1).mark) := by rw [← hk1]; exact s1
        have t2 : w4.cell? ⟨gv, (k - 1) * 7 + 2, none⟩ = some (.int .u64 (Sp.stRow key l k1).tx) := by rw [← hk1]; exact s2
        have t3 : w4.cell? ⟨gv, (k - 1) * 7 + 3, none⟩ = some (.int .u32 (Sp.stRow key l k1).page) := by rw [← hk1]; exact s3
        have t4 : w4.cell? ⟨gv, (k - 1) * 7 + 4, none⟩ = some (.int .u16 (Sp.stRow key l k1).slot) := by rw [← hk1]; exact s4
        have t5 : w4.cell? ⟨gv, (k - 1) * 7 + 5, none⟩ = some (str (Sp.stRow key l k1).value) := by rw [← hk1]; exact s5
        have t6 : w4.cell? ⟨gv, (k - 1) * 7 + 6, none⟩ = some (.int .i64 (Sp.stRow key l k1).pad) := by rw [← hk1]; exact s6
        have dk : decide ((0 : Int) < (k : Int)) = true := by rw [decide_eq_true_eq]; omega
        have dk2 : (0 : Int) < (k : Int) := by omega
        have wrk : IntKind.i64.wrap ((k : Int) - 1) = (k1 : Int) := by rw [IntKind.wrap_i64]; omega
        have dk1 : k1 < l.length := by omega
        clear G
        obtain rfl : os = true := by rw [HOS.out]; simp; omega
        go_quiet (fail)
        refine hK9 _ _ ?_
        clear hK9
        go_meet
        case rel => exact ⟨rfl, _, rfl⟩
  case rest =>
  obtain ⟨rfl, n1, hw5⟩ := hcut
  obtain ⟨w5, rfl⟩ : ∃ x : World, x = wc := ⟨_, rfl⟩
  replace HI := Lib.hid (show LawB _ w5 gP gd gl gp gr gv l.length (Sp.stRow key l) gT aq as_ by rw [hw5]; exact HI.out.kept (kept_drewN _ _ _))
  replace HP := Lib.hid (show LzAt pg _ w5 gd gl gp by rw [hw5]; exact HP.out.below (below_drewN (Below.refl _ _) _))
  replace HBW := Lib.hid (show Below w.heap.size w w5 by rw [hw5]; exact below_drewN HBW.out _)
  replace HST3 := Lib.hid (show Below w2.heap.size w2 w5 by rw [hw5]; exact below_drewN HST3.out _)
  clear hw5
  clear G_g15
  obtain ⟨ud, er, hud, uds, ud1, hcs⟩ := undC_of (l := l) HKEY.out h10 HPE.out gd gl gp aq as_ haq has
  have HUD := Lib.hid hud
  have HU1 := Lib.hid ud1
  have HUS := Lib.hid uds
  have HCS := Lib.hid hcs
  clear hud ud1 uds hcs
  go_upto_region 11 with fail
  go_cut [18, 19] (fun va ve wx => CallAtU pg (fun b => (fun b => b < w2.heap.size ∨ b = gP) b ∨ b = g15) w5 gd gl gp ud va wx ∧ ve = .int .i64 er)
  case first =>
    as_aux_lemma =>
      go_wp2_with fail
      have hS0 := Lib.hid (LawB.st HI.out)
      refine R_begin (fun (W : World) => W.cell? ⟨gP, 2, none⟩ = some (ptr gp) ∧ W.cell? ⟨gT, 0, none⟩ = some (.int .u32 aq) ∧ W.cell? ⟨gT, 1, none⟩ = some (.int .u16 as_)) (fun _ => false) rfl ?_
      refine R_tk 0 107 hS0.out ?_
      refine R_tk 1 108 hS0.out ?_
      refine R_tk 2 109 hS0.out ?_
      refine R_tk 3 110 hS0.out ?_
      refine R_tk 4 111 hS0.out ?_
      simp only [List.setIfInBounds_toArray, List.set_cons_zero, List.set_cons_succ]
      refine R_all (rs := [5, 9]) (by kernel_rfl) (by simp) (fun i hi => ?_)
      simp only [List.mem_cons, List.not_mem_nil, or_false] at hi
      rcases hi with rfl | rfl
      · skip
        have hc := HUD.out (fun b => (fun b => b < w2.heap.size ∨ b = gP) b ∨ b = g15) _ HP.out.drew
        refine op_call 112 (w' := w5.drew) rfl rfl (by rfl) ?_ hc ?_
        · go_simp
        rintro e v1 ⟨rfl, hk1, hp1⟩
        have hi1 := HI.out.kept (Kept.undrew hk1)
        have hS1 := Lib.hid (LawB.st hi1)
        refine ⟨_, rfl, fun _ => hS1.out, ?_⟩
        simp only [List.setIfInBounds_toArray, List.set_cons_zero, List.set_cons_succ]
        clear hc
        refine R_tk 6 106 hS1.out ?_
        refine R_tk 7 113 hS1.out ?_
        refine R_tk 8 114 hS1.out ?_
        simp only [List.setIfInBounds_toArray, List.set_cons_zero, List.set_cons_succ]
        have hi2 := hi1.kept (Kept.of_below ((Below.refl v1.heap.size v1).alloc (Nat.le_refl _) (.cells udZ 48)) hp1.lt)
        have hS2 := Lib.hid (LawB.st hi2)
        refine R_run 9 18 (v := ptr v1.heap.size) (w' := v1.alloc (.cells udZ 48)) rfl rfl (by rfl) (by kernel_rfl) ?_ (fun _ => hS2.out) ?_
        · first | (go_simp; done) | (go_simp; rfl)
        simp only [List.setIfInBounds_toArray, List.set_cons_zero, List.set_cons_succ]
        have hn := Blk.new v1 48 udZ
        have hca := callAtU_1 (Kept.undrew hk1) hp1 (ud)
        have hS3 := Lib.hid (show (fun (W : World) => W.cell? ⟨gP, 2, none⟩ = some (ptr gp) ∧ W.cell? ⟨gT, 0, none⟩ = some (.int .u32 aq) ∧ W.cell? ⟨gT, 1, none⟩ = some (.int .u16 as_)) _ from LawB.st (HI.out.kept hca.choose_spec.2.2.2.1))
        (try simp only [List.setIfInBounds_toArray, List.set_cons_zero, List.set_cons_succ])
        refine R_store 10 (n := .skip) (w' := (v1.alloc (.cells udZ 48)).setRow v1.heap.size (ud)) rfl rfl (by rfl) (by kernel_rfl) (run_op_store _ _ _ _ _ rfl rfl rfl (ud_store12 hn HUS.out HU1.out)) (.inl rfl) (fun _ => hS3.out) ?_
        refine R_tk 11 19 hS3.out ?_
        simp only [List.setIfInBounds_toArray, List.set_cons_zero, List.set_cons_succ]
        refine R_done (by kernel_rfl) ?_ _
        rename_i K9 hK9
        refine hK9 _ _ ?_
        clear hK9
        go_meet
        case rel => exact ⟨hca, rfl⟩
      · skip
        obtain ⟨hp1, hk1, hn1⟩ := callAtU_0 HP.out
        have hi1 := HI.out.kept hk1
        have hS1 := Lib.hid (LawB.st hi1)
        refine op_run 18 (v := ptr w5.heap.size) (w' := w5.drew.alloc (.cells udZ 48)) rfl rfl (by rfl) ?_ ⟨fun _ => hS1.out, ?_⟩
        · first | (go_simp; done) | (go_simp; rfl)
        simp only [List.setIfInBounds_toArray, List.set_cons_zero, List.set_cons_succ]
        have hc := HUD.out (fun b => (fun b => (fun b => b < w2.heap.size ∨ b = gP) b ∨ b = g15) b ∨ b = w5.heap.size) _ hp1
        refine R_call 5 112 (w' := w5.drew.alloc (.cells udZ 48)) rfl rfl (by rfl) (by kernel_rfl) ?_ hc ?_
        · go_simp
        rintro e v2 ⟨rfl, hk2, hp2⟩
        have hi2 := hi1.kept (hk2.mono (fun b hb => .inl hb))
        have hS2 := Lib.hid (LawB.st hi2)
        refine ⟨_, rfl, fun _ => hS2.out, ?_⟩
        simp only [List.setIfInBounds_toArray, List.set_cons_zero, List.set_cons_succ]
        clear hc
        refine R_tk 6 106 hS2.out ?_
        refine R_tk 7 113 hS2.out ?_
        refine R_tk 8 114 hS2.out ?_
        have hca := callAtU_2 HP.out hk2 hp2 (ud)
        have hS3 := Lib.hid (show (fun (W : World) => W.cell? ⟨gP, 2, none⟩ = some (ptr gp) ∧ W.cell? ⟨gT, 0, none⟩ = some (.int .u32 aq) ∧ W.cell? ⟨gT, 1, none⟩ = some (.int .u16 as_)) _ from LawB.st (HI.out.kept hca.choose_spec.2.2.2.1))
        (try simp only [List.setIfInBounds_toArray, List.set_cons_zero, List.set_cons_succ])
        refine R_store 10 (n := .skip) (w' := v2.setRow w5.heap.size (ud)) rfl rfl (by rfl) (by kernel_rfl) (run_op_store _ _ _ _ _ rfl rfl rfl (ud_store12 (hn1.kept hk2 (.inr rfl)) HUS.out HU1.out)) (.inl rfl) (fun _ => hS3.out) ?_
        refine R_tk 11 19 hS3.out ?_
        simp only [List.setIfInBounds_toArray, List.set_cons_zero, List.set_cons_succ]
        refine R_done (by kernel_rfl) ?_ _
        rename_i K9 hK9
        refine hK9 _ _ ?_
        clear hK9
        go_meet
        case rel => exact ⟨hca, rfl⟩
  case rest =>
  obtain ⟨⟨g18, rfl, hg18, hp11, hk11, hge11⟩, rfl⟩ := hcut
  obtain ⟨w6, rfl⟩ : ∃ x : World, x = wc := ⟨_, rfl⟩
  replace HI := Lib.hid ((HI.out.kept hk11).mono (K' := fun b => (fun b => (fun b => b < w2.heap.size ∨ b = gP) b ∨ b = g15) b ∨ b = g18) (fun b hb => .inl hb))
  replace HP := Lib.hid hp11
  replace HBW := Lib.hid (HBW.out.trans (hk11.below (fun b hb => HK0.out b hb)))
  replace HST3 := Lib.hid (HST3.out.trans (hk11.below (fun b hb => HKV.out b hb)))
  replace HK0 := Lib.hid (show ∀ b, b < w.heap.size → (fun b => (fun b => (fun b => b < w2.heap.size ∨ b = gP) b ∨ b = g15) b ∨ b = g18) b from fun b hb => .inl (HK0.out b hb))
  replace HKV := Lib.hid (show ∀ b, b < w2.heap.size → (fun b => (fun b => (fun b => b < w2.heap.size ∨ b = gP) b ∨ b = g15) b ∨ b = g18) b from fun b hb => .inl (HKV.out b hb))
  have G_g18 := Lib.hid hg18
  clear hg18 hp11 hk11 hge11 HUD HU1 HUS
  have hkT := HI.out.st
  go_upto_region 12 with fail
  go_cut [20] (fun v wx => v = .bool (decide (er = 0)) ∧ ∃ n, wx = w6.drewN n)
  case first =>
    as_aux_lemma =>
      rename_i J9 K9 hJ9 hK9
      obtain ⟨_, t0, t1⟩ := hkT
      have was : IntKind.i64.wrap (as_ : Int) = as_ := by rw [IntKind.wrap_i64]; omega
      by_cases hin : 1 ≤ aq ∧ aq ≤ 6
      · obtain ⟨q1, q6⟩ := hin
        obtain ⟨qi, hqi⟩ : ∃ m, m = aq - 1 := ⟨_, rfl⟩
        obtain ⟨A0, c0, hRr, _, _, _, _, _, p5⟩ := HPG.out qi (by omega)
        rw [Nat.zero_add] at p5
        have p5 := lv_below HST3.out hbp p5
        have hlr : (pg (qi + 1)).rows.length = (Sp.stRows key l l.length (aq - 1)).length := by rw [HPE.out]; show (Sp.stRows key l l.length (qi + 1 - 1)).length = _; rw [Nat.add_sub_cancel, hqi]
        have a1 : decide ((1 : Int) ≤ (aq : Int)) = true := by rw [decide_eq_true_eq]; omega
        have a2 : decide ((aq : Int) ≤ 6) = true := by rw [decide_eq_true_eq]; omega
        have wq : IntKind.u32.wrap ((aq : Int) - 1) = (qi : Int) := by rw [IntKind.wrap_u32]; omega
        have mq : (qi : Int) % 6 = (qi : Int) := by omega
        have mq' : ((aq : Int) - 1) % 6 = (aq : Int) - 1 := by omega
        have q5' : (aq : Int) - 1 < 6 := by omega
        have q5'' : aq - 1 < 6 := by omega
        have mm : (aq - 1) % 6 = qi := by omega
        have p5'' : w6.cell? ⟨bp, (aq - 1) % 6 * 6 + 5, none⟩ = some (.slice A0 (pg (qi + 1)).rows.length c0) := by rw [mm]; exact p5
        clear mm
        have q5 : qi < 6 := by omega
        have hd : decide ((as_ : Int) < ((pg (qi + 1)).rows.length : Int)) = decide (er = 0) := by
          rw [hlr]
          rcases HCS.out with ⟨e0, _, _, hs, _⟩ | ⟨e0, (hf | ⟨_, _, hs⟩)⟩
          · rw [decide_eq_true (show er = 0 from e0), decide_eq_true_eq]; omega
          · omega
          · rw [decide_eq_false (show ¬ er = 0 from e0), decide_eq_false_iff_not]; omega
        have HD := Lib.hid (show decide (as_ < (pg aq).rows.length) = decide (er = 0) by
          rw [← hd, show qi + 1 = aq by omega]
          exact decide_eq_decide.2 (by omega))
        clear hlr hRr hd
        go_quiet (fail)
        refine hK9 _ _ ?_
        clear hK9
        go_meet
        case rel => exact ⟨by rw [HD.out], _, rfl⟩
      · have e0 : decide (er = 0) = false := by
          rcases HCS.out with ⟨_, q1, q6, _⟩ | ⟨e0, _⟩
          · exact absurd ⟨q1, q6⟩ hin
          · rw [decide_eq_false_iff_not]; exact e0
        have HE0 := Lib.hid e0
        clear e0
        by_cases h0 : aq < 1
        · have a1 : decide ((1 : Int) ≤ (aq : Int)) = false := by rw [decide_eq_false_iff_not]; omega
          have a1' : ¬ (1 : Int) ≤ (aq : Int) := by omega
          go_quiet (fail)
          refine hK9 _ _ ?_
          clear hK9
          go_meet
          case rel => exact ⟨by rw [HE0.out], _, rfl⟩
        · have a1 : decide ((1 : Int) ≤ (aq : Int)) = true := by rw [decide_eq_true_eq]; omega
          have a2 : decide ((aq : Int) ≤ 6) = false := by rw [decide_eq_false_iff_not]; omega
          have a2' : ¬ (aq : Int) ≤ 6 := by omega
          go_quiet (fail)
          refine hK9 _ _ ?_
          clear hK9
          go_meet
          case rel => exact ⟨by rw [HE0.out], _, rfl⟩
  case rest =>
  obtain ⟨rfl, n2, hw7⟩ := hcut
  obtain ⟨w7, rfl⟩ : ∃ x : World, x = wc := ⟨_, rfl⟩
  replace HI := Lib.hid (show LawB _ w7 gP gd gl gp gr gv l.length (Sp.stRow key l) gT aq as_ by rw [hw7]; exact HI.out.kept (kept_drewN _ _ _))
  replace HP := Lib.hid (show LzAt pg _ w7 gd gl gp by rw [hw7]; exact HP.out.below (below_drewN (Below.refl _ _) _))
  replace HBW := Lib.hid (show Below w.heap.size w w7 by rw [hw7]; exact below_drewN HBW.out _)
  replace HST3 := Lib.hid (show Below w2.heap.size w2 w7 by rw [hw7]; exact below_drewN HST3.out _)
  replace G_g18 := Lib.hid (show Blk w7 g18 48 ud by rw [hw7]; exact G_g18.out)
  clear hw7
  go_upto_region 13 with fail
  go_cut [19, 20, 161] (fun ve vt v wx => ve = .int .i64 er ∧ vt = .bool (decide (er = 0)) ∧ v = .bool false ∧ Below w7.heap.size w7 wx)
  case first =>
    as_aux_lemma =>
      rename_i J9 K9 hJ9 hK9
      by_cases he : er = 0
      · have e1 : decide (er = 0) = true := by rw [decide_eq_true_eq]; exact he
        have HE1 := Lib.hid e1
        have HEE := Lib.hid he
        rw [e1, he]
        clear e1
        have hrr : ∃ (q1 : 1 ≤ aq) (q6 : aq ≤ 6) (hs : as_ < (Sp.stRows key l l.length (aq - 1)).length), ud = (udCs (Sp.stUd key l (2 * (aq - 1) + as_))).toArray := by
          rcases HCS.out with ⟨_, a, b, c, d⟩ | ⟨e0, _⟩
          · exact ⟨a, b, c, d⟩
          · exact absurd he e0
        obtain ⟨q1, q6, hs, hcs⟩ := hrr
        obtain ⟨hi, hs2, hat⟩ := stRows_at hs
        obtain ⟨u1, u2, _, _⟩ := Sp.stUd_ok HKEY.out h10 hi
        have u3 := stUd_pad key l (2 * (aq - 1) + as_)
        obtain ⟨u, hu⟩ : ∃ u, u = Sp.stUd key l (2 * (aq - 1) + as_) := ⟨_, rfl⟩
        rw [← hu] at hcs hat u1 u2 u3
        have HEN := Lib.hid fun (W : World) => ref21_encode u u1 u2 u3 W
        obtain ⟨qi, hqi⟩ : ∃ m, m = aq - 1 := ⟨_, rfl⟩
        obtain ⟨A0, c0, hRr, _, _, _, _, _, p5⟩ := HPG.out qi (by omega)
        rw [Nat.zero_add] at p5
        have hlr : (pg (qi + 1)).rows = Sp.stRows key l l.length (aq - 1) := by rw [HPE.out]; show Sp.stRows key l l.length (qi + 1 - 1) = _; rw [Nat.add_sub_cancel, hqi]
        have hsn : as_ < (pg (qi + 1)).rows.length := by rw [hlr]; exact hs
        obtain ⟨bR, oR, uu, rfl, hbR, hbl, huu, hcc⟩ := Reads.at_ hRr hsn
        have huv : uu = str u.bytes := by
          rw [show rcs (pg (qi + 1)).rows = (pg (qi + 1)).rows.map str from rfl, List.getElem?_map, hlr, hat] at huu
          injection huu with huu
          exact huu.symm
        subst huv
        have p5' := lv_below HST3.out hbp p5
        have pR' := lv_below HST3.out hbR hcc
        obtain ⟨_, t0, t1⟩ := HI.out.st
        have G := G_g18.out
        rw [hcs] at G
        have hS0 : Hid ((fun (W : World) => W.cell? ⟨gT, 0, none⟩ = some (.int .u32 aq) ∧ W.cell? ⟨gT, 1, none⟩ = some (.int .u16 as_) ∧ W.cell? ⟨g18, 0, none⟩ = some (.int .u8 u.kind) ∧ W.cell? ⟨g18, 1, none⟩ = some (.int .u64 u.tx) ∧ W.cell? ⟨g18, 2, none⟩ = some (.int .u32 u.ppage) ∧ W.cell? ⟨g18, 3, none⟩ = some (.int .u16 u.pslot) ∧ W.cell? ⟨g18, 4, none⟩ = some (str u.key) ∧ W.cell? ⟨g18, 5, none⟩ = some (str u.was.key) ∧ W.cell? ⟨g18, 6, none⟩ = some (.bool u.was.mark) ∧ W.cell? ⟨g18, 7, none⟩ = some (.int .u64 u.was.tx) ∧ W.cell? ⟨g18, 8, none⟩ = some (.int .u32 u.was.page) ∧ W.cell? ⟨g18, 9, none⟩ = some (.int .u16 u.was.slot) ∧ W.cell? ⟨g18, 10, none⟩ = some (str u.was.value) ∧ W.cell? ⟨g18, 11, none⟩ = some (.int .i64 u.was.pad) ∧ W.cell? ⟨bp, qi * 6 + 5, none⟩ = some (.slice (some ⟨bR, oR, none⟩) (pg (qi + 1)).rows.length c0) ∧ W.cell? ⟨bR, oR + as_, none⟩ = some (str u.bytes)) w7.drew) := Lib.hid ⟨t0, t1, G.cell 0, G.cell 1, G.cell 2, G.cell 3, G.cell 4, G.cell 5, G.cell 6, G.cell 7, G.cell 8, G.cell 9, G.cell 10, G.cell 11, p5', pR'⟩
        have wq : IntKind.u32.wrap ((aq : Int) - 1) = (qi : Int) := by rw [IntKind.wrap_u32]; omega
        have mq : (qi : Int) % 6 = (qi : Int) := by omega
        have mq2 : (qi : Int).tmod 6 = (qi : Int) := by rw [Int.tmod_eq_emod_of_nonneg (by omega)]; exact mq
        have q5 : qi < 6 := by omega
        have HQI := Lib.hid hqi
        have hbl1 := lv_lt p5'
        have hbl2 := lv_lt pR'
        clear hs hcs hat hi hs2 u1 u2 u3 hu hRr p5 hlr huu hcc p5' pR' t0 t1 G hqi hbl hbR
        go_wp2_with fail
        refine R_begin (fun (W : World) => W.cell? ⟨gT, 0, none⟩ = some (.int .u32 aq) ∧ W.cell? ⟨gT, 1, none⟩ = some (.int .u16 as_) ∧ W.cell? ⟨g18, 0, none⟩ = some (.int .u8 u.kind) ∧ W.cell? ⟨g18, 1, none⟩ = some (.int .u64 u.tx) ∧ W.cell? ⟨g18, 2, none⟩ = some (.int .u32 u.ppage) ∧ W.cell? ⟨g18, 3, none⟩ = some (.int .u16 u.pslot) ∧ W.cell? ⟨g18, 4, none⟩ = some (str u.key) ∧ W.cell? ⟨g18, 5, none⟩ = some (str u.was.key) ∧ W.cell? ⟨g18, 6, none⟩ = some (.bool u.was.mark) ∧ W.cell? ⟨g18, 7, none⟩ = some (.int .u64 u.was.tx) ∧ W.cell? ⟨g18, 8, none⟩ = some (.int .u32 u.was.page) ∧ W.cell? ⟨g18, 9, none⟩ = some (.int .u16 u.was.slot) ∧ W.cell? ⟨g18, 10, none⟩ = some (str u.was.value) ∧ W.cell? ⟨g18, 11, none⟩ = some (.int .i64 u.was.pad) ∧ W.cell? ⟨bp, qi * 6 + 5, none⟩ = some (.slice (some ⟨bR, oR, none⟩) (pg (qi + 1)).rows.length c0) ∧ W.cell? ⟨bR, oR + as_, none⟩ = some (str u.bytes)) (fun _ => false) rfl ?_
        refine R_tk 0 138 hS0.out ?_
        refine R_tk (v := .bool true) 1 139 hS0.out ?_
        refine R_tk 2 140 hS0.out ?_
        refine R_tk (v := .bool false) 3 141 hS0.out ?_
        refine R_tk 4 142 hS0.out ?_
        simp only [List.setIfInBounds_toArray, List.set_cons_zero, List.set_cons_succ]
        refine R_tk 5 143 hS0.out ?_
        refine R_tk 6 144 hS0.out ?_
        simp only [List.setIfInBounds_toArray, List.set_cons_zero, List.set_cons_succ]
        refine R_tk 7 145 hS0.out ?_
        refine R_tk 9 147 hS0.out ?_
        refine R_tk 10 148 hS0.out ?_
        refine R_tk 11 149 hS0.out ?_
        simp only [List.setIfInBounds_toArray, List.set_cons_zero, List.set_cons_succ]
        refine R_tk (v := .int .u32 (qi : Nat)) 12 150 hS0.out ?_ (hy := ?_)
        rotate_left
        · intro w hSw; (try dsimp only at hSw); (try simp only [List.setIfInBounds_toArray, List.set_cons_zero, List.set_cons_succ]); go_simp; all_goals (have := HQI.out; omega)
        simp only [List.setIfInBounds_toArray, List.set_cons_zero, List.set_cons_succ]
        refine R_tk (v := .int .u32 (qi : Nat)) 13 151 hS0.out ?_ (hy := ?_)
        rotate_left
        · intro w hSw; (try dsimp only at hSw); (try simp only [List.setIfInBounds_toArray, List.set_cons_zero, List.set_cons_succ]); go_simp; all_goals (first | exact mq2 | omega)
        simp only [List.setIfInBounds_toArray, List.set_cons_zero, List.set_cons_succ]
        refine R_tk (v := .pointer (some ⟨bp, qi * 6, none⟩)) 14 152 hS0.out ?_ (hy := ?_)
        rotate_left
        · intro w hSw; (try dsimp only at hSw); (try simp only [List.setIfInBounds_toArray, List.set_cons_zero, List.set_cons_succ]); clear hSw hS0 hbl1 hbl2 HEN; go_simp; all_goals (first | omega | (intro h; omega))
        simp only [List.setIfInBounds_toArray, List.set_cons_zero, List.set_cons_succ]
        refine R_tk 15 153 hS0.out ?_
        refine R_tk 16 154 hS0.out ?_
        refine R_tk 17 155 hS0.out ?_
        refine R_tk 18 156 hS0.out ?_
        simp only [List.setIfInBounds_toArray, List.set_cons_zero, List.set_cons_succ]
        refine R_tk (v := .pointer (some ⟨bR, oR + as_, none⟩)) 19 157 hS0.out ?_ (hy := ?_)
        rotate_left
        · intro w hSw; (try dsimp only at hSw); (try simp only [List.setIfInBounds_toArray, List.set_cons_zero, List.set_cons_succ]); clear hSw hS0 hbl1 hbl2 HEN; go_simp; all_goals (first | omega | (intro h; omega))
        simp only [List.setIfInBounds_toArray, List.set_cons_zero, List.set_cons_succ]
        refine R_tk 20 158 hS0.out ?_
        simp only [List.setIfInBounds_toArray, List.set_cons_zero, List.set_cons_succ]
        refine R_call 8 146 (w' := w7.drew) rfl rfl (by rfl) (by kernel_rfl) ?_ (HEN.out _) ?_
        · go_simp
        rintro e v1 ⟨rfl, hbv⟩
        have hS1 : Hid ((fun (W : World) => W.cell? ⟨gT, 0, none⟩ = some (.int .u32 aq) ∧ W.cell? ⟨gT, 1, none⟩ = some (.int .u16 as_) ∧ W.cell? ⟨g18, 0, none⟩ = some (.int .u8 u.kind) ∧ W.cell? ⟨g18, 1, none⟩ = some (.int .u64 u.tx) ∧ W.cell? ⟨g18, 2, none⟩ = some (.int .u32 u.ppage) ∧ W.cell? ⟨g18, 3, none⟩ = some (.int .u16 u.pslot) ∧ W.cell? ⟨g18, 4, none⟩ = some (str u.key) ∧ W.cell? ⟨g18, 5, none⟩ = some (str u.was.key) ∧ W.cell? ⟨g18, 6, none⟩ = some (.bool u.was.mark) ∧ W.cell? ⟨g18, 7, none⟩ = some (.int .u64 u.was.tx) ∧ W.cell? ⟨g18, 8, none⟩ = some (.int .u32 u.was.page) ∧ W.cell? ⟨g18, 9, none⟩ = some (.int .u16 u.was.slot) ∧ W.cell? ⟨g18, 10, none⟩ = some (str u.was.value) ∧ W.cell? ⟨g18, 11, none⟩ = some (.int .i64 u.was.pad) ∧ W.cell? ⟨bp, qi * 6 + 5, none⟩ = some (.slice (some ⟨bR, oR, none⟩) (pg (qi + 1)).rows.length c0) ∧ W.cell? ⟨bR, oR + as_, none⟩ = some (str u.bytes)) v1) := Lib.hid (by
          obtain ⟨t0, t1, k0, k1, k2, k3, k4, k5, k6, k7, k8, k9, k10, k11, p5, pR⟩ := hS0.out
          have f := fun {b o : Nat} {v : Value} (h : w7.drew.cell? ⟨b, o, none⟩ = some v) => lv_below hbv (lv_lt h) h
          exact ⟨f t0, f t1, f k0, f k1, f k2, f k3, f k4, f k5, f k6, f k7, f k8, f k9, f k10, f k11, f p5, f pR⟩)
        refine ⟨_, rfl, fun _ => hS1.out, ?_⟩
        simp only [List.setIfInBounds_toArray, List.set_cons_zero, List.set_cons_succ]
        refine R_tk (v := .bool false) 21 159 hS1.out ?_
        refine R_tk 22 160 hS1.out ?_
        refine R_tk 23 161 hS1.out ?_
        simp only [List.setIfInBounds_toArray, List.set_cons_zero, List.set_cons_succ]
        refine R_done (by kernel_rfl) ?_ _
        refine hK9 _ _ ?_
        clear hK9
        go_meet
        case rel => exact ⟨by rw [HEE.out]; rfl, by rw [HE1.out], rfl, (Below.refl w7.heap.size w7).drew.trans hbv⟩
      · have e1 : decide (er = 0) = false := by rw [decide_eq_false_iff_not]; exact he
        have e2 : decide ((er : Int) = 0) = false := by rw [decide_eq_false_iff_not]; omega
        have e3 : ((er : Int) == 0) = false := by rw [beq_eq_false_iff_ne]; omega
        have HE1 := Lib.hid e1
        rw [e1]
        clear e1
        go_quiet (fail)
        refine hK9 _ _ ?_
        clear hK9
        go_meet
        case rel => exact ⟨rfl, by rw [HE1.out], rfl, below_drewN (Below.refl _ _) _⟩
  case rest =>
  obtain ⟨rfl, rfl, rfl, hb8⟩ := hcut
  obtain ⟨w8, rfl⟩ : ∃ x : World, x = wc := ⟨_, rfl⟩
  have hz7 := HBW.out.size
  replace HI := Lib.hid (HI.out.kept (Kept.of_below hb8 HP.out.lt))
  replace HP := Lib.hid (HP.out.below hb8)
  replace HBW := Lib.hid (HBW.out.trans (hb8.mono hz7))
  clear G_g18 HST3 HCS HKV hb8 hz7 HPG
  obtain ⟨_, s1, s2, s3, s4, s5, s6, s7⟩ := HI.out.s hkl
  have hb4 := (Below.refl w8.heap.size w8).alloc (Nat.le_refl _) (.cells rwZ 37)
  have hPl3 := HP.out.lt
  have hk4 := Kept.of_below hb4 hPl3
  have H13 := Blk.new w8 37 rwZ
  have hp4 := HP.out.more (K' := fun b => (fun b => (fun b => (fun b => b < w2.heap.size ∨ b = gP) b ∨ b = g15) b ∨ b = g18) b ∨ b = w8.heap.size) hb4 (fun b hb => by rcases hb with hb | rfl; exact .inl hb; exact .inr ⟨Nat.le_refl _, by simp⟩)
  have H13b := (H13.setRow (rwCs (Sp.stRow key l k)).toArray)
  have hp4b := hp4.turns ((Turns.refl (fun b => (fun b => (fun b => (fun b => b < w2.heap.size ∨ b = gP) b ∨ b = g15) b ∨ b = g18) b ∨ b = w8.heap.size) _).setRow (.inl (.inr rfl)) (rwCs (Sp.stRow key l k)).toArray)
  have hk4b : Kept (fun b => (fun b => (fun b => b < w2.heap.size ∨ b = gP) b ∨ b = g15) b ∨ b = g18) w8 ((w8.alloc (.cells rwZ 37)).setRow w8.heap.size (rwCs (Sp.stRow key l k)).toArray) := hk4.trans ⟨rfl, rfl, rfl, by simp, fun b hb' => heap_setRow_other _ _ _ _ (Nat.ne_of_lt (hPl3 b hb'))⟩
  have HI4 := Lib.hid (HI.out.i.kept hk4b)
  have hle8 := HBW.out.size
  have G21 := Lib.hid H13b
  have HP4 := Lib.hid hp4b
  have HB4 := Lib.hid (HBW.out.trans (hk4b.below (fun b hb => HK0.out b hb)))
  have G13 := Lib.hid H13
  have HNW := Lib.hid (show ¬ (fun b => (fun b => (fun b => b < w2.heap.size ∨ b = gP) b ∨ b = g15) b ∨ b = g18) w8.heap.size from fun h => by have := hPl3 _ h; omega)
  clear H13 H13b hp4 hp4b hk4 hk4b hb4 hPl3 HP HI HBW
  go_upto_region 16 with (refine wpList_store_part rfl _ _ _ rfl w8.heap.size 0 #[str (Sp.stRow key l k).key, .bool (Sp.stRow key l k).mark, .int .u64 (Sp.stRow key l k).tx, .int .u32 (Sp.stRow key l k).page, .int .u16 (Sp.stRow key l k).slot, str (Sp.stRow key l k).value, .int .i64 (Sp.stRow key l k).pad] rfl rfl _ _ G13.out row_size (by show 0 + 7 ≤ 7; omega) (row_one _ _ _ _ _ _ _) ?_)
  (try simp only [Act.put])
  rw [show partRow rwZ 0 (#[str (Sp.stRow key l k).key, .bool (Sp.stRow key l k).mark, .int .u64 (Sp.stRow key l k).tx, .int .u32 (Sp.stRow key l k).page, .int .u16 (Sp.stRow key l k).slot, str (Sp.stRow key l k).value, .int .i64 (Sp.stRow key l k).pad]).toList = (rwCs (Sp.stRow key l k)).toArray from partRow_row (rwCs (Sp.stRow key l k)).toArray rfl]
  generalize hw9 : World.setRow (World.alloc w8 _) _ _ = w9 at HI4 G21 HP4 HB4 ⊢
  obtain ⟨g21, hg21⟩ : ∃ g, g = w8.heap.size := ⟨_, rfl⟩
  rw [← hg21] at G21 HP4 HNW ⊢
  have hle21 : w.heap.size ≤ g21 := by omega
  have HK4 : Hid (∀ b, b < w.heap.size → (fun b => (fun b => (fun b => (fun b => b < w2.heap.size ∨ b = gP) b ∨ b = g15) b ∨ b = g18) b ∨ b = g21) b) := Lib.hid fun b hb => .inl (HK0.out b hb)
  clear hw9 hg21 G13 s1 s2 s3 s4 s5 s6 s7 hle8
  have c2 : w9.cell? ⟨g21, 2, none⟩ = some (.int .u64 (Sp.stRow key l k).tx) := G21.out.cell 2
  have f2 := G21.out.frozen 2
  obtain ⟨x, hxe⟩ : ∃ x : Sp.Rw, x = { Sp.stRow key l k with tx := tx } := ⟨_, rfl⟩
  have hx21 : Blk (w9.setCell ⟨g21, 2, none⟩ (.int .u64 tx)) g21 37 (rwCs x).toArray := by
    have := G21.out.set_ 2 (.int .u64 tx)
    rw [show (rwCs (Sp.stRow key l k)).toArray.setIfInBounds 2 (.int .u64 tx) = (rwCs x).toArray by rw [hxe]; rfl] at this
    exact this
  have hp10 := HP4.out.turns ((Turns.refl (fun b => (fun b => (fun b => (fun b => b < w2.heap.size ∨ b = gP) b ∨ b = g15) b ∨ b = g18) b ∨ b = g21) w9).setCell (p := ⟨g21, 2, none⟩) (.inl (.inr rfl)) (.int .u64 tx))
  have hk10 : Kept (fun b => (fun b => (fun b => b < w2.heap.size ∨ b = gP) b ∨ b = g15) b ∨ b = g18) w9 (w9.setCell ⟨g21, 2, none⟩ (.int .u64 tx)) := ⟨rfl, rfl, rfl, by simp [World.setCell], fun b hb => Below.heap_setCell _ _ _ b (fun e => HNW.out (by have e' : b = g21 := e; rw [← e']; exact hb))⟩
  have hi10 := HI4.out.kept hk10
  have hb10 := HB4.out.setCell (p := ⟨g21, 2, none⟩) hle21 (.int .u64 tx)
  clear HP4 HI4 HB4
  go_upto_region 17 with fail
  generalize hw10 : World.setCell w9 _ _ = w10 at hx21 hp10 hk10 hi10 hb10 ⊢
  have HI := Lib.hid hi10
  have HP := Lib.hid hp10
  have HBW := Lib.hid hb10
  replace G21 := Lib.hid hx21
  clear hw10 hx21 hp10 hk10 hi10 hb10 c2 f2
  obtain ⟨cs2, b2, er2, hC2, hs2, ho2, he2⟩ := back_any (l := l) HKEY.out h10 HPE.out hkl gd gl gp tx
  rw [← hxe] at hC2
  have HC2 := Lib.hid hC2
  have HS2 := Lib.hid hs2
  have HO2 := Lib.hid ho2
  have HE2 := Lib.hid he2
  have HO := Lib.hid (show LawO (fun b => (fun b => (fun b => (fun b => b < w2.heap.size ∨ b = gP) b ∨ b = g15) b ∨ b = g18) b ∨ b = g21) w10 gP gd gl gp gr gv l.length (Sp.stRow key l) g21 x from ⟨HI.out.mono (fun b hb => .inl hb), G21.out, .inr rfl⟩)
  clear hC2 hs2 ho2 he2
  go_cut [24] (fun v wx => v = .int .i64 er2 ∧ ∃ va, CallAt pg (fun b => (fun b => (fun b => (fun b => b < w2.heap.size ∨ b = gP) b ∨ b = g15) b ∨ b = g18) b ∨ b = g21) w10 gd gl gp cs2 va wx)
  case first =>
    as_aux_lemma =>
      go_wp2_with fail
      have hS0 := Lib.hid (LawO.s HO.out)
      refine R_begin (fun (W : World) => W.cell? ⟨gP, 2, none⟩ = some (ptr gp) ∧ W.cell? ⟨g21, 0, none⟩ = some (str x.key) ∧ W.cell? ⟨g21, 1, none⟩ = some (.bool x.mark) ∧ W.cell? ⟨g21, 2, none⟩ = some (.int .u64 x.tx) ∧ W.cell? ⟨g21, 3, none⟩ = some (.int .u32 x.page) ∧ W.cell? ⟨g21, 4, none⟩ = some (.int .u16 x.slot) ∧ W.cell? ⟨g21, 5, none⟩ = some (str x.value) ∧ W.cell? ⟨g21, 6, none⟩ = some (.int .i64 x.pad)) (fun _ => false) rfl ?_
      refine R_tk 0 169 hS0.out ?_
      refine R_tk 1 170 hS0.out ?_
      refine R_tk 2 171 hS0.out ?_
      refine R_tk 3 172 hS0.out ?_
      refine R_tk 4 173 hS0.out ?_
      simp only [List.setIfInBounds_toArray, List.set_cons_zero, List.set_cons_succ]
      refine R_all (rs := [5, 10]) (by kernel_rfl) (by simp) (fun i hi => ?_)
      simp only [List.mem_cons, List.not_mem_nil, or_false] at hi
      rcases hi with rfl | rfl
      · skip
        have hc := HC2.out (fun b => (fun b => (fun b => (fun b => b < w2.heap.size ∨ b = gP) b ∨ b = g15) b ∨ b = g18) b ∨ b = g21) _ HP.out.drew
        refine op_call 174 (w' := w10.drew) rfl rfl (by rfl) ?_ hc ?_
        · go_simp
        rintro e v1 ⟨rfl, hk1, hp1⟩
        have hi1 := HO.out.kept (Kept.undrew hk1)
        have hS1 := Lib.hid (LawO.s hi1)
        refine ⟨_, rfl, fun _ => hS1.out, ?_⟩
        simp only [List.setIfInBounds_toArray, List.set_cons_zero, List.set_cons_succ]
        clear hc
        refine R_tk 6 168 hS1.out ?_
        refine R_tk 7 175 hS1.out ?_
        refine R_tk 8 176 hS1.out ?_
        refine R_tk 9 177 hS1.out ?_
        simp only [List.setIfInBounds_toArray, List.set_cons_zero, List.set_cons_succ]
        have hi2 := hi1.kept (Kept.of_below ((Below.refl v1.heap.size v1).alloc (Nat.le_refl _) (.cells rwZ 37)) hp1.lt)
        have hS2 := Lib.hid (LawO.s hi2)
        refine R_run 10 22 (v := ptr v1.heap.size) (w' := v1.alloc (.cells rwZ 37)) rfl rfl (by rfl) (by kernel_rfl) ?_ (fun _ => hS2.out) ?_
        · first | (go_simp; done) | (go_simp; rfl)
        simp only [List.setIfInBounds_toArray, List.set_cons_zero, List.set_cons_succ]
        have hn := Blk.new v1 37 rwZ
        have hca := callAt_1 (Kept.undrew hk1) hp1 (cs2)
        have hS3 := Lib.hid (show (fun (W : World) => W.cell? ⟨gP, 2, none⟩ = some (ptr gp) ∧ W.cell? ⟨g21, 0, none⟩ = some (str x.key) ∧ W.cell? ⟨g21, 1, none⟩ = some (.bool x.mark) ∧ W.cell? ⟨g21, 2, none⟩ = some (.int .u64 x.tx) ∧ W.cell? ⟨g21, 3, none⟩ = some (.int .u32 x.page) ∧ W.cell? ⟨g21, 4, none⟩ = some (.int .u16 x.slot) ∧ W.cell? ⟨g21, 5, none⟩ = some (str x.value) ∧ W.cell? ⟨g21, 6, none⟩ = some (.int .i64 x.pad)) _ from LawO.s (HO.out.kept hca.choose_spec.2.2.2.1))
        (try simp only [List.setIfInBounds_toArray, List.set_cons_zero, List.set_cons_succ])
        refine R_store 11 (n := .skip) (w' := (v1.alloc (.cells rwZ 37)).setRow v1.heap.size (cs2)) rfl rfl (by rfl) (by kernel_rfl) (run_op_store _ _ _ _ _ rfl rfl rfl (row_store7 hn HS2.out HO2.out)) (.inl rfl) (fun _ => hS3.out) ?_
        refine R_tk 12 23 hS3.out ?_
        refine R_tk 13 24 hS3.out ?_
        simp only [List.setIfInBounds_toArray, List.set_cons_zero, List.set_cons_succ]
        refine R_done (by kernel_rfl) ?_ _
        rename_i K9 hK9
        refine hK9 _ _ ?_
        clear hK9
        go_meet
        case rel => exact ⟨rfl, _, hca⟩
      · skip
        obtain ⟨hp1, hk1, hn1⟩ := callAt_0 HP.out
        have hi1 := HO.out.kept hk1
        have hS1 := Lib.hid (LawO.s hi1)
        refine op_run 22 (v := ptr w10.heap.size) (w' := w10.drew.alloc (.cells rwZ 37)) rfl rfl (by rfl) ?_ ⟨fun _ => hS1.out, ?_⟩
        · first | (go_simp; done) | (go_simp; rfl)
        simp only [List.setIfInBounds_toArray, List.set_cons_zero, List.set_cons_succ]
        have hc := HC2.out (fun b => (fun b => (fun b => (fun b => (fun b => b < w2.heap.size ∨ b = gP) b ∨ b = g15) b ∨ b = g18) b ∨ b = g21) b ∨ b = w10.heap.size) _ hp1
        refine R_call 5 174 (w' := w10.drew.alloc (.cells rwZ 37)) rfl rfl (by rfl) (by kernel_rfl) ?_ hc ?_
        · go_simp
        rintro e v2 ⟨rfl, hk2, hp2⟩
        have hi2 := hi1.kept (hk2.mono (fun b hb => .inl hb))
        have hS2 := Lib.hid (LawO.s hi2)
        refine ⟨_, rfl, fun _ => hS2.out, ?_⟩
        simp only [List.setIfInBounds_toArray, List.set_cons_zero, List.set_cons_succ]
        clear hc
        refine R_tk 6 168 hS2.out ?_
        refine R_tk 7 175 hS2.out ?_
        refine R_tk 8 176 hS2.out ?_
        refine R_tk 9 177 hS2.out ?_
        have hca := callAt_2 HP.out hk2 hp2 (cs2)
        have hS3 := Lib.hid (show (fun (W : World) => W.cell? ⟨gP, 2, none⟩ = some (ptr gp) ∧ W.cell? ⟨g21, 0, none⟩ = some (str x.key) ∧ W.cell? ⟨g21, 1, none⟩ = some (.bool x.mark) ∧ W.cell? ⟨g21, 2, none⟩ = some (.int .u64 x.tx) ∧ W.cell? ⟨g21, 3, none⟩ = some (.int .u32 x.page) ∧ W.cell? ⟨g21, 4, none⟩ = some (.int .u16 x.slot) ∧ W.cell? ⟨g21, 5, none⟩ = some (str x.value) ∧ W.cell? ⟨g21, 6, none⟩ = some (.int .i64 x.pad)) _ from LawO.s (HO.out.kept hca.choose_spec.2.2.2.1))
        (try simp only [List.setIfInBounds_toArray, List.set_cons_zero, List.set_cons_succ])
        refine R_store 11 (n := .skip) (w' := v2.setRow w10.heap.size (cs2)) rfl rfl (by rfl) (by kernel_rfl) (run_op_store _ _ _ _ _ rfl rfl rfl (row_store7 (hn1.kept hk2 (.inr rfl)) HS2.out HO2.out)) (.inl rfl) (fun _ => hS3.out) ?_
        refine R_tk 12 23 hS3.out ?_
        refine R_tk 13 24 hS3.out ?_
        simp only [List.setIfInBounds_toArray, List.set_cons_zero, List.set_cons_succ]
        refine R_done (by kernel_rfl) ?_ _
        rename_i K9 hK9
        refine hK9 _ _ ?_
        clear hK9
        go_meet
        case rel => exact ⟨rfl, _, hca⟩
  case rest =>
  obtain ⟨rfl, _, g22, rfl, _, hp17, hk17, _⟩ := hcut
  obtain ⟨w11, rfl⟩ : ∃ x : World, x = wc := ⟨_, rfl⟩
  replace HI := Lib.hid (HI.out.kept (hk17.mono (fun b hb => .inl hb)))
  replace G21 := Lib.hid (G21.out.kept hk17 (.inr rfl))
  replace HP := Lib.hid (hp17.mono (K' := fun b => (fun b => (fun b => (fun b => b < w2.heap.size ∨ b = gP) b ∨ b = g15) b ∨ b = g18) b ∨ b = g21) (fun b hb => .inl hb))
  replace HBW := Lib.hid (HBW.out.trans (hk17.below (fun b hb => HK4.out b hb)))
  clear hp17 hk17 HC2 HS2 HO2 HO
  obtain ⟨y, hye⟩ : ∃ y : Sp.Rw, y = { x with page := 0, slot := 0 } := ⟨_, rfl⟩
  have HYE := Lib.hid hye
  have hpy : partRow (rwCs x).toArray 3 (#[Value.int .u32 0, .int .u16 0]).toList = (rwCs y).toArray := by rw [hye]; rfl
  have hz2 : ∀ W, (Instr.build 26 #[]).run Tryz.prog W = .ok (.agg #[.int .u32 0, .int .u16 0]) W := fun W => by kernel_rfl
  have hy21 := G21.out.setRow (rwCs y).toArray
  have hp12 := HP.out.turns ((Turns.refl (fun b => (fun b => (fun b => (fun b => b < w2.heap.size ∨ b = gP) b ∨ b = g15) b ∨ b = g18) b ∨ b = g21) w11).setRow (.inl (.inr rfl)) (rwCs y).toArray)
  have hk12 : Kept (fun b => (fun b => (fun b => b < w2.heap.size ∨ b = gP) b ∨ b = g15) b ∨ b = g18) w11 (w11.setRow g21 (rwCs y).toArray) := ⟨rfl, rfl, rfl, by simp, fun b hb' => heap_setRow_other _ _ _ _ (fun e => HNW.out (e ▸ hb'))⟩
  have hi12 := HI.out.kept hk12
  have hb12 := below_setRow HBW.out hle21 (rwCs y).toArray
  clear HI HP HBW hye
  go_upto_region 19 with (refine wpList_store_part rfl _ _ _ rfl g21 3 #[.int .u32 0, .int .u16 0] rfl rfl _ _ G21.out roll_size2 (by show 3 + 2 ≤ 7; omega) (by simp [Value.oneCell']) ?_)
  (try simp only [Act.put])
  rw [hpy]
  clear hpy G21 hz2
  generalize hw12 : World.setRow w11 _ _ = w12 at hy21 hp12 hk12 hi12 hb12 ⊢
  have HI := Lib.hid hi12
  have HP := Lib.hid hp12
  have HBW := Lib.hid hb12
  have G21 := Lib.hid hy21
  clear hw12 hy21 hp12 hk12 hi12 hb12
  have HC3 : Hid (BackC pg gd gl gp y rwZ false 0) := Lib.hid (fun K W h => (past_back_zero y (by rw [HYE.out]) gp W).mono (by
    rintro e w' ⟨he, hb⟩
    exact ⟨he, Kept.of_below hb h.lt, h.below hb⟩))
  have HO := Lib.hid (show LawO (fun b => (fun b => (fun b => (fun b => b < w2.heap.size ∨ b = gP) b ∨ b = g15) b ∨ b = g18) b ∨ b = g21) w12 gP gd gl gp gr gv l.length (Sp.stRow key l) g21 y from ⟨HI.out.mono (fun b hb => .inl hb), G21.out, .inr rfl⟩)
  have HZ1 := Lib.hid (show rwZ.all (·.oneCell') = true from row_one _ _ _ _ _ _ _)
  go_cut [25, 26, 27] (fun va vb ve wx => CallAt pg (fun b => (fun b => (fun b => (fun b => b < w2.heap.size ∨ b = gP) b ∨ b = g15) b ∨ b = g18) b ∨ b = g21) w12 gd gl gp rwZ va wx ∧ vb = .bool false ∧ ve = .int .i64 0)
  case first =>
    as_aux_lemma =>
      go_wp2_with fail
      have hS0 := Lib.hid (LawO.s HO.out)
      refine R_begin (fun (W : World) => W.cell? ⟨gP, 2, none⟩ = some (ptr gp) ∧ W.cell? ⟨g21, 0, none⟩ = some (str y.key) ∧ W.cell? ⟨g21, 1, none⟩ = some (.bool y.mark) ∧ W.cell? ⟨g21, 2, none⟩ = some (.int .u64 y.tx) ∧ W.cell? ⟨g21, 3, none⟩ = some (.int .u32 y.page) ∧ W.cell? ⟨g21, 4, none⟩ = some (.int .u16 y.slot) ∧ W.cell? ⟨g21, 5, none⟩ = some (str y.value) ∧ W.cell? ⟨g21, 6, none⟩ = some (.int .i64 y.pad)) (fun _ => false) rfl ?_
      refine R_tk 0 181 hS0.out ?_
      refine R_tk 1 182 hS0.out ?_
      refine R_tk 2 183 hS0.out ?_
      refine R_tk 3 184 hS0.out ?_
      refine R_tk 4 185 hS0.out ?_
      simp only [List.setIfInBounds_toArray, List.set_cons_zero, List.set_cons_succ]
      refine R_all (rs := [5, 10]) (by kernel_rfl) (by simp) (fun i hi => ?_)
      simp only [List.mem_cons, List.not_mem_nil, or_false] at hi
      rcases hi with rfl | rfl
      · skip
        have hc := HC3.out (fun b => (fun b => (fun b => (fun b => b < w2.heap.size ∨ b = gP) b ∨ b = g15) b ∨ b = g18) b ∨ b = g21) _ HP.out.drew
        refine op_call 186 (w' := w12.drew) rfl rfl (by rfl) ?_ hc ?_
        · go_simp
        rintro e v1 ⟨rfl, hk1, hp1⟩
        have hi1 := HO.out.kept (Kept.undrew hk1)
        have hS1 := Lib.hid (LawO.s hi1)
        refine ⟨_, rfl, fun _ => hS1.out, ?_⟩
        simp only [List.setIfInBounds_toArray, List.set_cons_zero, List.set_cons_succ]
        clear hc
        refine R_tk 6 180 hS1.out ?_
        refine R_tk 7 187 hS1.out ?_
        refine R_tk 8 188 hS1.out ?_
        refine R_tk 9 189 hS1.out ?_
        simp only [List.setIfInBounds_toArray, List.set_cons_zero, List.set_cons_succ]
        have hi2 := hi1.kept (Kept.of_below ((Below.refl v1.heap.size v1).alloc (Nat.le_refl _) (.cells rwZ 37)) hp1.lt)
        have hS2 := Lib.hid (LawO.s hi2)
        refine R_run 10 25 (v := ptr v1.heap.size) (w' := v1.alloc (.cells rwZ 37)) rfl rfl (by rfl) (by kernel_rfl) ?_ (fun _ => hS2.out) ?_
        · first | (go_simp; done) | (go_simp; rfl)
        simp only [List.setIfInBounds_toArray, List.set_cons_zero, List.set_cons_succ]
        have hn := Blk.new v1 37 rwZ
        have hca := callAt_1 (Kept.undrew hk1) hp1 (rwZ)
        have hS3 := Lib.hid (show (fun (W : World) => W.cell? ⟨gP, 2, none⟩ = some (ptr gp) ∧ W.cell? ⟨g21, 0, none⟩ = some (str y.key) ∧ W.cell? ⟨g21, 1, none⟩ = some (.bool y.mark) ∧ W.cell? ⟨g21, 2, none⟩ = some (.int .u64 y.tx) ∧ W.cell? ⟨g21, 3, none⟩ = some (.int .u32 y.page) ∧ W.cell? ⟨g21, 4, none⟩ = some (.int .u16 y.slot) ∧ W.cell? ⟨g21, 5, none⟩ = some (str y.value) ∧ W.cell? ⟨g21, 6, none⟩ = some (.int .i64 y.pad)) _ from LawO.s (HO.out.kept hca.choose_spec.2.2.2.1))
        (try simp only [List.setIfInBounds_toArray, List.set_cons_zero, List.set_cons_succ])
        refine R_store 11 (n := .skip) (w' := (v1.alloc (.cells rwZ 37)).setRow v1.heap.size (rwZ)) rfl rfl (by rfl) (by kernel_rfl) (run_op_store _ _ _ _ _ rfl rfl rfl (row_store7 hn rfl HZ1.out)) (.inl rfl) (fun _ => hS3.out) ?_
        refine R_tk 12 26 hS3.out ?_
        refine R_tk 13 27 hS3.out ?_
        simp only [List.setIfInBounds_toArray, List.set_cons_zero, List.set_cons_succ]
        refine R_done (by kernel_rfl) ?_ _
        rename_i K9 hK9
        refine hK9 _ _ ?_
        clear hK9
        go_meet
        case rel => exact ⟨hca, rfl, rfl⟩
      · skip
        obtain ⟨hp1, hk1, hn1⟩ := callAt_0 HP.out
        have hi1 := HO.out.kept hk1
        have hS1 := Lib.hid (LawO.s hi1)
        refine op_run 25 (v := ptr w12.heap.size) (w' := w12.drew.alloc (.cells rwZ 37)) rfl rfl (by rfl) ?_ ⟨fun _ => hS1.out, ?_⟩
        · first | (go_simp; done) | (go_simp; rfl)
        simp only [List.setIfInBounds_toArray, List.set_cons_zero, List.set_cons_succ]
        have hc := HC3.out (fun b => (fun b => (fun b => (fun b => (fun b => b < w2.heap.size ∨ b = gP) b ∨ b = g15) b ∨ b = g18) b ∨ b = g21) b ∨ b = w12.heap.size) _ hp1
        refine R_call 5 186 (w' := w12.drew.alloc (.cells rwZ 37)) rfl rfl (by rfl) (by kernel_rfl) ?_ hc ?_
        · go_simp
        rintro e v2 ⟨rfl, hk2, hp2⟩
        have hi2 := hi1.kept (hk2.mono (fun b hb => .inl hb))
        have hS2 := Lib.hid (LawO.s hi2)
        refine ⟨_, rfl, fun _ => hS2.out, ?_⟩
        simp only [List.setIfInBounds_toArray, List.set_cons_zero, List.set_cons_succ]
        clear hc
        refine R_tk 6 180 hS2.out ?_
        refine R_tk 7 187 hS2.out ?_
        refine R_tk 8 188 hS2.out ?_
        refine R_tk 9 189 hS2.out ?_
        have hca := callAt_2 HP.out hk2 hp2 (rwZ)
        have hS3 := Lib.hid (show (fun (W : World) => W.cell? ⟨gP, 2, none⟩ = some (ptr gp) ∧ W.cell? ⟨g21, 0, none⟩ = some (str y.key) ∧ W.cell? ⟨g21, 1, none⟩ = some (.bool y.mark) ∧ W.cell? ⟨g21, 2, none⟩ = some (.int .u64 y.tx) ∧ W.cell? ⟨g21, 3, none⟩ = some (.int .u32 y.page) ∧ W.cell? ⟨g21, 4, none⟩ = some (.int .u16 y.slot) ∧ W.cell? ⟨g21, 5, none⟩ = some (str y.value) ∧ W.cell? ⟨g21, 6, none⟩ = some (.int .i64 y.pad)) _ from LawO.s (HO.out.kept hca.choose_spec.2.2.2.1))
        (try simp only [List.setIfInBounds_toArray, List.set_cons_zero, List.set_cons_succ])
        refine R_store 11 (n := .skip) (w' := v2.setRow w12.heap.size (rwZ)) rfl rfl (by rfl) (by kernel_rfl) (run_op_store _ _ _ _ _ rfl rfl rfl (row_store7 (hn1.kept hk2 (.inr rfl)) rfl HZ1.out)) (.inl rfl) (fun _ => hS3.out) ?_
        refine R_tk 12 26 hS3.out ?_
        refine R_tk 13 27 hS3.out ?_
        simp only [List.setIfInBounds_toArray, List.set_cons_zero, List.set_cons_succ]
        refine R_done (by kernel_rfl) ?_ _
        rename_i K9 hK9
        refine hK9 _ _ ?_
        clear hK9
        go_meet
        case rel => exact ⟨hca, rfl, rfl⟩
  case rest =>
  obtain ⟨⟨g25, rfl, h25, hp19, hk19, _⟩, rfl, rfl⟩ := hcut
  obtain ⟨w13, rfl⟩ : ∃ x : World, x = wc := ⟨_, rfl⟩
  replace HI := Lib.hid (HI.out.kept (hk19.mono (fun b hb => .inl hb)))
  replace G21 := Lib.hid (G21.out.kept hk19 (.inr rfl))
  have HP19 := Lib.hid hp19
  replace HBW := Lib.hid (HBW.out.trans (hk19.below (fun b hb => HK4.out b hb)))
  have G25 := Lib.hid h25
  obtain ⟨a0, a1, a2, a3, a4, a5, a6⟩ := vrow_cells (r := y) G21.out
  clear h25 hp19 hk19 HC3 HZ1 HO HP
  go_wp2_with fail
  refine (past_back_nil y _).mono ?_
  rintro e w14 ⟨rfl, hb14⟩
  have hz13 := HBW.out.size
  replace HI := Lib.hid (HI.out.kept (Kept.of_below hb14 (fun b hb => HP19.out.lt b (.inl (.inl hb)))))
  replace G25 := Lib.hid (G25.out.below hb14 G25.out.lt)
  replace HBW := Lib.hid (HBW.out.trans (hb14.mono hz13))
  have hlt14 : ∀ b, (fun b => (fun b => (fun b => b < w2.heap.size ∨ b = gP) b ∨ b = g15) b ∨ b = g18) b → b < w14.heap.size := fun b hb => Nat.lt_of_lt_of_le (HP19.out.lt b (.inl (.inl hb))) hb14.size
  have G28n := Lib.hid (Blk.new w14 37 rwZ)
  clear a0 a1 a2 a3 a4 a5 a6 hb14 hz13 HP19 G21
  have hb15 := (Below.refl w14.heap.size w14).alloc (Nat.le_refl _) (.cells rwZ 37)
  have hz14 := HBW.out.size
  have h28 := G28n.out.setRow rwZ
  have hs15 : Below w14.heap.size w14 ((w14.alloc (.cells rwZ 37)).setRow w14.heap.size rwZ) := below_setRow hb15 (Nat.le_refl _) rwZ
  have h25 := G25.out.below hs15 G25.out.lt
  have hi15 := HI.out.kept (Kept.of_below hs15 hlt14)
  have hb15' := HBW.out.trans (hs15.mono hz14)
  clear HI G25 HBW hb15 hlt14
  go_upto_region 21 with (refine wpList_store_part rfl _ _ _ rfl w14.heap.size 0 #[str [], .bool false, .int .u64 0, .int .u32 0, .int .u16 0, str [], .int .i64 0] rfl rfl _ _ G28n.out row_size (by show 0 + 7 ≤ 7; omega) (row_one _ _ _ _ _ _ _) ?_)
  (try simp only [Act.put])
  rw [show partRow rwZ 0 (#[str [], .bool false, .int .u64 0, .int .u32 0, .int .u16 0, str [], .int .i64 0]).toList = rwZ from partRow_row rwZ rfl]
  generalize hw15 : World.setRow _ _ _ = w15 at h28 hs15 h25 hi15 hb15' ⊢
  obtain ⟨g28, hg28⟩ : ∃ g, g = w14.heap.size := ⟨_, rfl⟩
  rw [← hg28] at h28 ⊢
  clear hw15 G28n hs15 hg28 hz14
  have b0 := (show Blk w15 g25 37 rwZ from h25).cell 0
  have b1 := (show Blk w15 g25 37 rwZ from h25).cell 1
  have b2 := (show Blk w15 g25 37 rwZ from h25).cell 2
  have b3 := (show Blk w15 g25 37 rwZ from h25).cell 3
  have b4 := (show Blk w15 g25 37 rwZ from h25).cell 4
  have b5 := (show Blk w15 g25 37 rwZ from h25).cell 5
  have b6 := (show Blk w15 g25 37 rwZ from h25).cell 6
  have c0 := (show Blk w15 g28 37 rwZ from h28).cell 0
  have c1 := (show Blk w15 g28 37 rwZ from h28).cell 1
  have c2 := (show Blk w15 g28 37 rwZ from h28).cell 2
  have c3 := (show Blk w15 g28 37 rwZ from h28).cell 3
  have c4 := (show Blk w15 g28 37 rwZ from h28).cell 4
  have c5 := (show Blk w15 g28 37 rwZ from h28).cell 5
  have c6 := (show Blk w15 g28 37 rwZ from h28).cell 6
  simp only [List.getElem?_toArray, List.getElem?_cons_succ, List.getElem?_cons_zero] at b0 b1 b2 b3 b4 b5 b6 c0 c1 c2 c3 c4 c5 c6
  have hz0 : ∀ W, (Instr.build 37 #[]).run Tryz.prog W = .ok rwZV W := fun W => by kernel_rfl
  obtain ⟨_, _, _, s2, _, _, _, _⟩ := hi15.s hkl
  have HBW := Lib.hid hb15'
  clear h25 h28 hi15 hb15'
  rcases HE2.out with ⟨htx, rfl⟩ | ⟨htx, rfl⟩
  · have dt : decide ((tx : Int) = ((Sp.stRow key l k).tx : Int)) = true := by rw [decide_eq_true_eq]; omega
    have dt2 : (tx : Int) = ((Sp.stRow key l k).tx : Int) := by omega
    have dt3 : ((tx : Int) == ((Sp.stRow key l k).tx : Int)) = true := by rw [beq_iff_eq]; omega
    go_wp2_with fail
    refine (HW.out _).mono ?_
    rintro e w8 ⟨rfl, hb8⟩
    go_wp2_with fail
    go_ret
    have hz4 := HBW.out.size
    exact ⟨rfl, HBW.out.trans (hb8.mono hz4)⟩
  · have dt : decide ((tx : Int) = ((Sp.stRow key l k).tx : Int)) = false := by rw [decide_eq_false_iff_not]; omega
    have dt2 : ¬ (tx : Int) = ((Sp.stRow key l k).tx : Int) := by omega
    have dt3 : ((tx : Int) == ((Sp.stRow key l k).tx : Int)) = false := by rw [beq_eq_false_iff_ne]; omega
    go_wp2_with fail
    refine (HW.out _).mono ?_
    rintro e w8 ⟨rfl, hb8⟩
    go_wp2_with fail
    go_ret
    have hz4 := HBW.out.size
    exact ⟨rfl, HBW.out.trans (hb8.mono hz4)⟩
end Go.Proofs.YtphkggcdfkcidaaGreat
