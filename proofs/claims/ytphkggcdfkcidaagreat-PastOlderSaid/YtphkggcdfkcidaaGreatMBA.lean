/- The walk of the law package pentimentolaw26: PastOlder, of too much. -/
import Derived.Test.YtphkggcdfkcidaaGreatMAM
import Derived.Test.YtphkggcdfkcidaaGreatMAL
import Derived.Deep.CutBlock
import Derived.Test.YtphkggcdfkcidaaGreatRows
import Derived.Carry
import Derived.ChangeMaps5

namespace Go.Proofs.YtphkggcdfkcidaaGreat
open Go.RowKit Go.Conc

set_option maxRecDepth 100000 in
set_option maxHeartbeats 4000000 in
/-- What is too much is answered by works. -/
theorem law_older_out (key : Sp.Bs) (l : List Sp.Stp) (one two cap : Nat) (A : Option Addr) (hl : l.length ≤ 140737488355328) (hsl : ∀ x ∈ l, x.s.length ≤ 140737488355328) (hkl : key.length ≤ 140737488355328) (G : Foot) (w : World) (hR : StpsAt G w A l)
    (hout : ¬ (hzB l = false ∧ 1 ≤ l.length ∧ 1 ≤ key.length ∧ key.length ≤ 48)) :
    Calls Tryz.prog 4 #[str key, .slice A l.length cap, .int .u8 one, .int .u8 two] w fun e w' => e = .returned (.bool true) ∧ Below w.heap.size w w' := by
  have HZ := Lib.hid fun (W : World) (h : StpsAt G W A l) => law26_heavy A cap l hl hsl G W h
  have HW := Lib.hid fun (W : World) => law26_works W
  have HR := Lib.hid hR
  clear hR hsl
  have hcs : hzB l = true ∨ (hzB l = false ∧ l.length = 0) ∨ (hzB l = false ∧ 1 ≤ l.length ∧ key.length = 0) ∨ (hzB l = false ∧ 1 ≤ l.length ∧ 1 ≤ key.length ∧ 48 < key.length) := by
    cases hz : hzB l with
    | true => exact .inl rfl
    | false =>
      by_cases h2 : l.length = 0
      · exact .inr (.inl ⟨rfl, h2⟩)
      · by_cases h3 : key.length = 0
        · exact .inr (.inr (.inl ⟨rfl, by omega, h3⟩))
        · by_cases h4 : 48 < key.length
          · exact .inr (.inr (.inr ⟨rfl, by omega, by omega, h4⟩))
          · exact absurd ⟨hz, by omega, by omega, by omega⟩ hout
  clear hout
  rcases hcs with hz | ⟨hz, h2⟩ | ⟨hz, h2, h3⟩ | ⟨hz, h2, h3, h4⟩
  · rw [hz] at HZ
    clear hz
    go_enter Tryz.func4, Tryz.ntmps4
    go_wp2_with fail
    refine (HZ.out _ HR.out).mono ?_
    rintro e w1 ⟨rfl, rfl⟩
    go_wp2_with fail
    refine (HW.out _).mono ?_
    rintro e w2 ⟨rfl, hb2⟩
    go_wp2_with fail
    go_ret
    exact ⟨rfl, hb2⟩
  · rw [hz] at HZ
    have d2 : ((l.length : Int) == 0) = true := by rw [beq_iff_eq]; omega
    have d2b : decide ((l.length : Int) = 0) = true := by rw [decide_eq_true_eq]; omega
    clear hz h2
    go_enter Tryz.func4, Tryz.ntmps4
    go_wp2_with fail
    refine (HZ.out _ HR.out).mono ?_
    rintro e w1 ⟨rfl, rfl⟩
    go_wp2_with fail
    refine (HW.out _).mono ?_
    rintro e w2 ⟨rfl, hb2⟩
    go_wp2_with fail
    go_ret
    exact ⟨rfl, hb2⟩
  · rw [hz] at HZ
    have d2 : ((l.length : Int) == 0) = false := by rw [beq_eq_false_iff_ne]; omega
    have d2b : decide ((l.length : Int) = 0) = false := by rw [decide_eq_false_iff_not]; omega
    have d3 : decide ((key.length : Int) < 1) = true := by rw [decide_eq_true_eq]; omega
    clear hz h3
    go_enter Tryz.func4, Tryz.ntmps4
    go_wp2_with fail
    refine (HZ.out _ HR.out).mono ?_
    rintro e w1 ⟨rfl, rfl⟩
    go_wp2_with fail
    refine (HW.out _).mono ?_
    rintro e w2 ⟨rfl, hb2⟩
    go_wp2_with fail
    go_ret
    exact ⟨rfl, hb2⟩
  · rw [hz] at HZ
    have d2 : ((l.length : Int) == 0) = false := by rw [beq_eq_false_iff_ne]; omega
    have d2b : decide ((l.length : Int) = 0) = false := by rw [decide_eq_false_iff_not]; omega
    have d3 : decide ((key.length : Int) < 1) = false := by rw [decide_eq_false_iff_not]; omega
    have d4 : decide ((48 : Int) < (key.length : Int)) = true := by rw [decide_eq_true_eq]; omega
    clear hz
    go_enter Tryz.func4, Tryz.ntmps4
    go_wp2_with fail
    refine (HZ.out _ HR.out).mono ?_
    rintro e w1 ⟨rfl, rfl⟩
    go_wp2_with fail
    refine (HW.out _).mono ?_
    rintro e w2 ⟨rfl, hb2⟩
    go_wp2_with fail
    go_ret
    exact ⟨rfl, hb2⟩
end Go.Proofs.YtphkggcdfkcidaaGreat

/- The walk of the law package pentimentolaw26: PastOlder. -/
namespace Go.Proofs.YtphkggcdfkcidaaGreat
open Go.RowKit Go.Conc

set_option maxRecDepth 100000 in
set_option maxHeartbeats 8000000 in
theorem law_older_in (key : Sp.Bs) (hkey : 1 ≤ key.length ∧ key.length ≤ 48) (l : List Sp.Stp) (h1 : 1 ≤ l.length) (hz : hzB l = false) (htx : ∀ x ∈ l, x.tx < 256) (one two m M cap : Nat) (hmM : m ≤ M) (hM : M < 256) (hmin : min (one : Int) two = m) (hmax : max (one : Int) two = M) (A : Option Addr) (w : World)
    (hR : StpsAt (fun b => b < w.heap.size) w A l) :
    Calls Tryz.prog 4 #[str key, .slice A l.length cap, .int .u8 one, .int .u8 two] w fun e w' => e = .returned (.bool true) ∧ Below w.heap.size w w' := by
  obtain ⟨h10, hs⟩ := hz_small hz
  have HZ := Lib.hid (law26_heavy A cap l (by omega) (fun x hx => by have := hs x hx; omega) _ _ hR)
  rw [hz] at HZ
  have HST := Lib.hid (law_story key hkey l h1 h10 htx hs _ A cap _ hR)
  have HW := Lib.hid fun (W : World) => law26_works W
  have HKEY := Lib.hid hkey
  have HMIN := Lib.hid hmin
  have HMAX := Lib.hid hmax
  have d2 : ((l.length : Int) == 0) = false := by rw [beq_eq_false_iff_ne]; omega
  have d2b : decide ((l.length : Int) = 0) = false := by rw [decide_eq_false_iff_not]; omega
  have d3 : decide ((key.length : Int) < 1) = false := by rw [decide_eq_false_iff_not]; omega
  have d4 : decide ((48 : Int) < (key.length : Int)) = false := by rw [decide_eq_false_iff_not]; omega
  clear hR hs htx hz hkey hmin hmax
  go_enter Tryz.func4, Tryz.ntmps4
  go_wp2_with fail
  refine HZ.out.mono ?_
  rintro e w1' ⟨rfl, hw1'⟩
  subst w1'
  go_wp2_with fail
  refine HST.out.mono ?_
  rintro e w2 ⟨vr, bp, cp, rfl, hsto, hb2⟩
  obtain ⟨hpgs, hbp⟩ := hsto.pgs
  obtain ⟨gv, cv, rfl, hgv, hrows⟩ := hsto.rows h1
  obtain ⟨pg, hpgE⟩ : ∃ pg, pg = Sp.stPg key l l.length := ⟨_, rfl⟩
  have hok : PgOk pg := fun q q1 q6 => by rw [hpgE]; exact Sp.stPg_ok HKEY.out h10 (Nat.le_refl _) q1 q6
  rw [← hpgE] at hpgs
  have HLD := Lib.hid (law_laid pg hok bp 0 cp w2 hbp hpgs)
  have HPE := Lib.hid hpgE
  have hbw2 : Below w.heap.size w w2 := hb2
  clear HST HZ hsto hb2 hpgs hpgE hok
  go_wp2_with fail
  refine HLD.out.mono ?_
  rintro e w3 ⟨gP, gr, gd, gl, gp, rfl, hPl, hb3, hL⟩
  have hszw := hbw2.size
  have HBK := Lib.hid fun (i : Nat) (hi : i < l.length) => sto_back (key := key) (l := l) HKEY.out h10 (pg := pg) hi (by rw [HPE.out]) gd gl gp
  have HI := Lib.hid (show LawIn (fun b => b < w2.heap.size ∨ b = gP) w3 gP gd gl gp gr gv l.length (Sp.stRow key l) from
    ⟨hPl, fun i hi j hj => (World.cell?_of_block (a := ⟨gv, i * 7 + j, none⟩) (hb3.block gv hgv)).trans (hrows i hi j hj), .inr rfl, .inl hgv⟩)
  have HP := Lib.hid (show LzAt pg (fun b => b < w2.heap.size ∨ b = gP) w3 gd gl gp from ⟨[], hL, by simp⟩)
  have hbw3 := hbw2.trans (hb3.mono hbw2.size)
  have HK0 := Lib.hid (show ∀ b, b < w.heap.size → (fun b => b < w2.heap.size ∨ b = gP) b from fun b hb => .inl (Nat.lt_of_lt_of_le hb hbw2.size))
  clear HLD hPl hb3 hL hrows hbw2 HPE hbp hgv d2 d2b d3 d4
  obtain ⟨k, hk⟩ : ∃ k, l.length = k + 1 := ⟨l.length - 1, by omega⟩
  have HKE := Lib.hid hk
  clear hk
  go_wp2_with fail
  go_loopw [12] (fun i wr => ∃ j : Nat, j ≤ l.length ∧ i = .int .i64 j ∧ (∀ q, q < j → (Sp.stRow key l q).mark = false) ∧ w3 = wr) (fun i _ => l.length - (intOf i).toNat)
  case atStart => exact ⟨0, by omega, rfl, fun q hq => by omega, rfl⟩
  case round =>
  obtain ⟨j, hj, rfl, hun, hw⟩ := hrel
  subst hw
  have HUN := Lib.hid hun
  clear hun
  by_cases hlt : j < l.length
  · obtain ⟨_, _, s2, _, _, _, _, _⟩ := HI.out.s hlt
    have wr1 : IntKind.i64.wrap ((j : Int) + 1) = ((j + 1 : Nat) : Int) := by rw [IntKind.wrap_i64]; omega
    cases hm : (Sp.stRow key l j).mark with
    | true =>
      rw [hm] at s2
      clear hm
      go_wp2_with fail
      refine (HW.out _).mono ?_
      rintro e w8 ⟨rfl, hb8⟩
      go_wp2_with fail
      go_ret
      exact ⟨rfl, hbw3.trans (hb8.mono hbw3.size)⟩
    | false =>
      have HM := Lib.hid hm
      rw [hm] at s2
      clear hm
      go_wp2_with fail
      go_roundw
      case rel => exact ⟨j + 1, hlt, by go_num, fun q hq => by
        by_cases e : q = j
        · rw [e]; exact HM.out
        · exact HUN.out q (by omega), trivial⟩
      case measure => simp [intOf]; omega
  obtain rfl : j = l.length := by omega
  clear hj hlt
  have hkl : k < l.length := by have := HKE.out; omega
  have HMK : Hid (∀ i, i ≤ k → (Sp.stRow key l i).mark = false) := Lib.hid fun i hi => HUN.out i (by omega)
  clear HUN
  have wrk : IntKind.i64.wrap ((l.length : Int) - 1) = (k : Int) := by have := HKE.out; rw [IntKind.wrap_i64]; omega
  obtain ⟨_, s1, s2, s3, s4, s5, s6, s7⟩ := HI.out.s hkl
  have hsz3 := hbw3.size
  have hb4 := (Below.refl w3.heap.size w3).alloc (Nat.le_refl _) (.cells rwZ 37)
  have hPl3 := HP.out.lt
  have hk4 := Kept.of_below hb4 hPl3
  have H13 := Blk.new w3 37 rwZ
  have hp4 : LzAt pg (fun b => (fun b => b < w2.heap.size ∨ b = gP) b ∨ b = w3.heap.size) (w3.alloc (.cells rwZ 37)) gd gl gp := HP.out.more hb4 (fun b hb => by rcases hb with hb | rfl; exact .inl hb; exact .inr ⟨Nat.le_refl _, by simp⟩)
  have H13b := (H13.setRow (rwCs (Sp.stRow key l k)).toArray)
  have hp4b := hp4.turns ((Turns.refl (fun b => (fun b => b < w2.heap.size ∨ b = gP) b ∨ b = w3.heap.size) _).setRow (.inl (.inr rfl)) (rwCs (Sp.stRow key l k)).toArray)
  have hk4b : Kept (fun b => b < w2.heap.size ∨ b = gP) w3 ((w3.alloc (.cells rwZ 37)).setRow w3.heap.size (rwCs (Sp.stRow key l k)).toArray) := hk4.trans ⟨rfl, rfl, rfl, by simp, fun b hb' => heap_setRow_other _ _ _ _ (Nat.ne_of_lt (hPl3 b hb'))⟩
  have HO := Lib.hid (show LawO (fun b => (fun b => b < w2.heap.size ∨ b = gP) b ∨ b = w3.heap.size) _ gP gd gl gp gr gv l.length (Sp.stRow key l) w3.heap.size (Sp.stRow key l k) from ⟨(HI.out.kept hk4b).mono (fun b hb => .inl hb), H13b, .inr rfl⟩)
  have HP4 := Lib.hid hp4b
  have HB4 := Lib.hid (hbw3.trans (hk4b.below (fun b hb => HK0.out b hb)))
  have G13 := Lib.hid H13
  clear H13 H13b hp4 hp4b hk4 hk4b hb4 hsz3 hPl3 HP HI hbw3
  go_upto_region 13 with (refine wpList_store_part rfl _ _ _ rfl w3.heap.size 0 #[str (Sp.stRow key l k).key, .bool (Sp.stRow key l k).mark, .int .u64 (Sp.stRow key l k).tx, .int .u32 (Sp.stRow key l k).page, .int .u16 (Sp.stRow key l k).slot, str (Sp.stRow key l k).value, .int .i64 (Sp.stRow key l k).pad] rfl rfl _ _ G13.out row_size (by show 0 + 7 ≤ 7; omega) (row_one _ _ _ _ _ _ _) ?_)
  simp only [Act.put]
  rw [show partRow rwZ 0 [str (Sp.stRow key l k).key, .bool (Sp.stRow key l k).mark, .int .u64 (Sp.stRow key l k).tx, .int .u32 (Sp.stRow key l k).page, .int .u16 (Sp.stRow key l k).slot, str (Sp.stRow key l k).value, .int .i64 (Sp.stRow key l k).pad] = (rwCs (Sp.stRow key l k)).toArray from partRow_row (rwCs (Sp.stRow key l k)).toArray rfl]
  generalize hw4 : World.setRow (World.alloc w3 _) _ _ = w4 at HO HP4 HB4 ⊢
  obtain ⟨g13, hg13⟩ : ∃ g, g = w3.heap.size := ⟨_, rfl⟩
  rw [← hg13] at HO HP4 ⊢
  have hHK : ∀ b, b < w.heap.size → (fun b => (fun b => b < w2.heap.size ∨ b = gP) b ∨ b = g13) b := fun b hb => .inl (HK0.out b hb)
  replace HK0 := Lib.hid hHK
  replace HP := Lib.hid HP4.out
  have HBW := Lib.hid HB4.out
  clear hw4 hg13 G13 HP4 HB4 hHK s1 s2 s3 s4 s5 s6 s7 wrk
  have HB := Lib.hid fun (i : Nat) (hi : i ≤ k) => HBK.out i (by omega)
  obtain ⟨p, hp⟩ := Sp.seen_at (row := Sp.stRow key l) (Sp.sees 0 m []) k HMK.out
  obtain ⟨q, hq⟩ := Sp.seen_at (row := Sp.stRow key l) (Sp.sees 0 M []) k HMK.out
  have hpq : p ≤ q := Sp.seen_le hp hq (fun tx ht => Sp.sees_mono hmM ht)
  have HC1 : Hid (SeeC pg gd gl gp (Sp.stRow key l k) m (Sp.orZ (Sp.seeAt (Sp.stRow key l) (Sp.sees 0 m []) k)) (Sp.seeAt (Sp.stRow key l) (Sp.sees 0 m []) k).isSome) := Lib.hid (seeC_of (row := Sp.stRow key l) (k := k) (by omega) m HB.out)
  have HC2 : Hid (SeeC pg gd gl gp (Sp.stRow key l k) M (Sp.orZ (Sp.seeAt (Sp.stRow key l) (Sp.sees 0 M []) k)) (Sp.seeAt (Sp.stRow key l) (Sp.sees 0 M []) k).isSome) := Lib.hid (seeC_of (row := Sp.stRow key l) (k := k) (by omega) M HB.out)
  have HC3 : Hid (SeeC pg gd gl gp (Sp.stRow key l k) 100 (Sp.orZ (some (Sp.stRow key l k))) true) := by
    have h := seeC_of (row := Sp.stRow key l) (k := k) (by omega) 100 HB.out
    have hx := Sp.stRow_tx (key := key) hkl
    rw [Sp.seeAt_at _ _ k (Sp.sees_all hx.1 hx.2), HMK.out k (Nat.le_refl _)] at h
    exact Lib.hid h
  rw [hp.is] at HC1
  rw [hq.is] at HC2
  obtain ⟨o1, ho1⟩ : ∃ o, o = if p = 0 then none else some (Sp.stRow key l (p - 1)) := ⟨_, rfl⟩
  obtain ⟨o2, ho2⟩ : ∃ o, o = if q = 0 then none else some (Sp.stRow key l (q - 1)) := ⟨_, rfl⟩
  rw [← ho1] at HC1
  rw [← ho2] at HC2
  have hpl := hp.le
  have hql := hq.le
  have HO1 := Lib.hid ho1
  have HO2 := Lib.hid ho2
  have hw1 : IntKind.u64.wrap (m : Int) = m := by rw [IntKind.wrap_u64]; omega
  have hw2 : IntKind.u64.wrap (M : Int) = M := by rw [IntKind.wrap_u64]; omega
  have HW1 := Lib.hid hw1
  have HW2 := Lib.hid hw2
  clear HB HBK hp hq ho1 ho2 hw1 hw2
  go_upto_region 13 with fail
  go_cut [14, 15, 16] (fun va vb ve wx => CallAt pg (fun b => (fun b => b < w2.heap.size ∨ b = gP) b ∨ b = g13) w4 gd gl gp (Sp.orZ o1) va wx ∧ vb = .bool o1.isSome ∧ ve = .int .i64 0)
  case first =>
    go_wp2_with fail
    have hS0 := Lib.hid (LawO.s HO.out)
    refine R_begin (fun (W : World) => W.cell? ⟨gP, 2, none⟩ = some (ptr gp) ∧ W.cell? ⟨g13, 0, none⟩ = some (str (Sp.stRow key l k).key) ∧ W.cell? ⟨g13, 1, none⟩ = some (.bool (Sp.stRow key l k).mark) ∧ W.cell? ⟨g13, 2, none⟩ = some (.int .u64 (Sp.stRow key l k).tx) ∧ W.cell? ⟨g13, 3, none⟩ = some (.int .u32 (Sp.stRow key l k).page) ∧ W.cell? ⟨g13, 4, none⟩ = some (.int .u16 (Sp.stRow key l k).slot) ∧ W.cell? ⟨g13, 5, none⟩ = some (str (Sp.stRow key l k).value) ∧ W.cell? ⟨g13, 6, none⟩ = some (.int .i64 (Sp.stRow key l k).pad)) (fun _ => false) rfl ?_
    refine R_tk 0 73 hS0.out ?_
    refine R_tk 1 74 hS0.out ?_
    refine R_tk 2 75 hS0.out ?_
    refine R_tk 3 76 hS0.out ?_
    refine R_tk 4 77 hS0.out ?_
    refine R_tk 5 78 hS0.out ?_
    refine R_tk 6 79 hS0.out ?_
    refine R_tk (v := .int .u8 (m : Nat)) 7 80 hS0.out ?_ (hy := ?_)
    rotate_left
    · intro w hSw; (try dsimp only at hSw); (try simp only [List.setIfInBounds_toArray, List.set_cons_zero, List.set_cons_succ]); go_simp; first | exact HMIN.out | (simp only [HMIN.out]; done) | (rw [HMIN.out])
    refine R_tk (v := .int .u64 (m : Nat)) 8 81 hS0.out ?_ (hy := ?_)
    rotate_left
    · intro w hSw; (try dsimp only at hSw); (try simp only [List.setIfInBounds_toArray, List.set_cons_zero, List.set_cons_succ]); go_simp; first | exact HW1.out | (simp only [HW1.out]; done) | (rw [HW1.out])
    refine R_tk 9 82 hS0.out ?_
    simp only [List.setIfInBounds_toArray, List.set_cons_zero, List.set_cons_succ]
    refine R_all (rs := [10, 15]) (by kernel_rfl) (by simp) (fun i hi => ?_)
    simp only [List.mem_cons, List.not_mem_nil, or_false] at hi
    rcases hi with rfl | rfl
    · skip
      have hc := HC1.out (fun b => (fun b => b < w2.heap.size ∨ b = gP) b ∨ b = g13) _ HP.out.drew
      refine op_call 83 (w' := w4.drew) rfl rfl (by rfl) ?_ hc ?_
      · go_simp
      rintro e v1 ⟨rfl, hk1, hp1⟩
      have hi1 := HO.out.kept (Kept.undrew hk1)
      have hS1 := Lib.hid (LawO.s hi1)
      refine ⟨_, rfl, fun _ => hS1.out, ?_⟩
      simp only [List.setIfInBounds_toArray, List.set_cons_zero, List.set_cons_succ]
      clear hc
      refine R_tk 11 72 hS1.out ?_
      refine R_tk 12 84 hS1.out ?_
      refine R_tk 13 85 hS1.out ?_
      refine R_tk 14 86 hS1.out ?_
      simp only [List.setIfInBounds_toArray, List.set_cons_zero, List.set_cons_succ]
      have hi2 := hi1.kept (Kept.of_below ((Below.refl v1.heap.size v1).alloc (Nat.le_refl _) (.cells rwZ 37)) hp1.lt)
      have hS2 := Lib.hid (LawO.s hi2)
      refine R_run 15 14 (v := ptr v1.heap.size) (w' := v1.alloc (.cells rwZ 37)) rfl rfl (by rfl) (by kernel_rfl) ?_ (fun _ => hS2.out) ?_
      · first | (go_simp; done) | (go_simp; rfl)
      simp only [List.setIfInBounds_toArray, List.set_cons_zero, List.set_cons_succ]
      have hn := Blk.new v1 37 rwZ
      have hca := callAt_1 (Kept.undrew hk1) hp1 ((Sp.orZ o1))
      have hS3 := Lib.hid (show (fun (W : World) => W.cell? ⟨gP, 2, none⟩ = some (ptr gp) ∧ W.cell? ⟨g13, 0, none⟩ = some (str (Sp.stRow key l k).key) ∧ W.cell? ⟨g13, 1, none⟩ = some (.bool (Sp.stRow key l k).mark) ∧ W.cell? ⟨g13, 2, none⟩ = some (.int .u64 (Sp.stRow key l k).tx) ∧ W.cell? ⟨g13, 3, none⟩ = some (.int .u32 (Sp.stRow key l k).page) ∧ W.cell? ⟨g13, 4, none⟩ = some (.int .u16 (Sp.stRow key l k).slot) ∧ W.cell? ⟨g13, 5, none⟩ = some (str (Sp.stRow key l k).value) ∧ W.cell? ⟨g13, 6, none⟩ = some (.int .i64 (Sp.stRow key l k).pad)) _ from LawO.s (HO.out.kept hca.choose_spec.2.2.2.1))
      (try simp only [List.setIfInBounds_toArray, List.set_cons_zero, List.set_cons_succ])
      refine R_store 16 (n := .skip) (w' := (v1.alloc (.cells rwZ 37)).setRow v1.heap.size ((Sp.orZ o1))) rfl rfl (by rfl) (by kernel_rfl) (run_op_store _ _ _ _ _ rfl rfl rfl (row_store7 hn (orZ_size _) (orZ_one _))) (.inl rfl) (fun _ => hS3.out) ?_
      refine R_tk 17 15 hS3.out ?_
      refine R_tk 18 16 hS3.out ?_
      simp only [List.setIfInBounds_toArray, List.set_cons_zero, List.set_cons_succ]
      refine R_done (by kernel_rfl) ?_ _
      rename_i K9 hK9
      refine hK9 _ _ ?_
      clear hK9
      go_meet
      case rel => exact ⟨hca, rfl, rfl⟩
    · skip
      obtain ⟨hp1, hk1, hn1⟩ := callAt_0 HP.out
      have hi1 := HO.out.kept hk1
      have hS1 := Lib.hid (LawO.s hi1)
      refine op_run 14 (v := ptr w4.heap.size) (w' := w4.drew.alloc (.cells rwZ 37)) rfl rfl (by rfl) ?_ ⟨fun _ => hS1.out, ?_⟩
      · first | (go_simp; done) | (go_simp; rfl)
      simp only [List.setIfInBounds_toArray, List.set_cons_zero, List.set_cons_succ]
      have hc := HC1.out (fun b => (fun b => (fun b => b < w2.heap.size ∨ b = gP) b ∨ b = g13) b ∨ b = w4.heap.size) _ hp1
      refine R_call 10 83 (w' := w4.drew.alloc (.cells rwZ 37)) rfl rfl (by rfl) (by kernel_rfl) ?_ hc ?_
      · go_simp
      rintro e v2 ⟨rfl, hk2, hp2⟩
      have hi2 := hi1.kept (hk2.mono (fun b hb => .inl hb))
      have hS2 := Lib.hid (LawO.s hi2)
      refine ⟨_, rfl, fun _ => hS2.out, ?_⟩
      simp only [List.setIfInBounds_toArray, List.set_cons_zero, List.set_cons_succ]
      clear hc
      refine R_tk 11 72 hS2.out ?_
      refine R_tk 12 84 hS2.out ?_
      refine R_tk 13 85 hS2.out ?_
      refine R_tk 14 86 hS2.out ?_
      have hca := callAt_2 HP.out hk2 hp2 ((Sp.orZ o1))
      have hS3 := Lib.hid (show (fun (W : World) => W.cell? ⟨gP, 2, none⟩ = some (ptr gp) ∧ W.cell? ⟨g13, 0, none⟩ = some (str (Sp.stRow key l k).key) ∧ W.cell? ⟨g13, 1, none⟩ = some (.bool (Sp.stRow key l k).mark) ∧ W.cell? ⟨g13, 2, none⟩ = some (.int .u64 (Sp.stRow key l k).tx) ∧ W.cell? ⟨g13, 3, none⟩ = some (.int .u32 (Sp.stRow key l k).page) ∧ W.cell? ⟨g13, 4, none⟩ = some (.int .u16 (Sp.stRow key l k).slot) ∧ W.cell? ⟨g13, 5, none⟩ = some (str (Sp.stRow key l k).value) ∧ W.cell? ⟨g13, 6, none⟩ = some (.int .i64 (Sp.stRow key l k).pad)) _ from LawO.s (HO.out.kept hca.choose_spec.2.2.2.1))
      (try simp only [List.setIfInBounds_toArray, List.set_cons_zero, List.set_cons_succ])
      refine R_store 16 (n := .skip) (w' := v2.setRow w4.heap.size ((Sp.orZ o1))) rfl rfl (by rfl) (by kernel_rfl) (run_op_store _ _ _ _ _ rfl rfl rfl (row_store7 (hn1.kept hk2 (.inr rfl)) (orZ_size _) (orZ_one _))) (.inl rfl) (fun _ => hS3.out) ?_
      refine R_tk 17 15 hS3.out ?_
      refine R_tk 18 16 hS3.out ?_
      simp only [List.setIfInBounds_toArray, List.set_cons_zero, List.set_cons_succ]
      refine R_done (by kernel_rfl) ?_ _
      rename_i K9 hK9
      refine hK9 _ _ ?_
      clear hK9
      go_meet
      case rel => exact ⟨hca, rfl, rfl⟩
  case rest =>
  obtain ⟨⟨g14, rfl, hg14, hp13, hk13, hge13⟩, rfl, rfl⟩ := hcut
  obtain ⟨w5, rfl⟩ : ∃ x : World, x = wc := ⟨_, rfl⟩
  replace HO := Lib.hid ((HO.out.kept hk13).mono (K' := fun b => (fun b => (fun b => b < w2.heap.size ∨ b = gP) b ∨ b = g13) b ∨ b = g14) (fun b hb => .inl hb))
  replace HP := Lib.hid hp13
  replace HBW := Lib.hid (HBW.out.trans (hk13.below (fun b hb => HK0.out b hb)))
  replace HK0 := Lib.hid (show ∀ b, b < w.heap.size → (fun b => (fun b => (fun b => b < w2.heap.size ∨ b = gP) b ∨ b = g13) b ∨ b = g14) b from fun b hb => .inl (HK0.out b hb))
  have Hg14 := Lib.hid hg14
  clear hg14 hp13 hk13 hge13
  go_upto_region 14 with fail
  go_cut [17, 18, 19] (fun va vb ve wx => CallAt pg (fun b => (fun b => (fun b => b < w2.heap.size ∨ b = gP) b ∨ b = g13) b ∨ b = g14) w5 gd gl gp (Sp.orZ o2) va wx ∧ vb = .bool o2.isSome ∧ ve = .int .i64 0)
  case first =>
    go_wp2_with fail
    have hS0 := Lib.hid (LawO.s HO.out)
    refine R_begin (fun (W : World) => W.cell? ⟨gP, 2, none⟩ = some (ptr gp) ∧ W.cell? ⟨g13, 0, none⟩ = some (str (Sp.stRow key l k).key) ∧ W.cell? ⟨g13, 1, none⟩ = some (.bool (Sp.stRow key l k).mark) ∧ W.cell? ⟨g13, 2, none⟩ = some (.int .u64 (Sp.stRow key l k).tx) ∧ W.cell? ⟨g13, 3, none⟩ = some (.int .u32 (Sp.stRow key l k).page) ∧ W.cell? ⟨g13, 4, none⟩ = some (.int .u16 (Sp.stRow key l k).slot) ∧ W.cell? ⟨g13, 5, none⟩ = some (str (Sp.stRow key l k).value) ∧ W.cell? ⟨g13, 6, none⟩ = some (.int .i64 (Sp.stRow key l k).pad)) (fun _ => false) rfl ?_
    refine R_tk 0 88 hS0.out ?_
    refine R_tk 1 89 hS0.out ?_
    refine R_tk 2 90 hS0.out ?_
    refine R_tk 3 91 hS0.out ?_
    refine R_tk 4 92 hS0.out ?_
    refine R_tk 5 93 hS0.out ?_
    refine R_tk 6 94 hS0.out ?_
    refine R_tk (v := .int .u8 (M : Nat)) 7 95 hS0.out ?_ (hy := ?_)
    rotate_left
    · intro w hSw; (try dsimp only at hSw); (try simp only [List.setIfInBounds_toArray, List.set_cons_zero, List.set_cons_succ]); go_simp; first | exact HMAX.out | (simp only [HMAX.out]; done) | (rw [HMAX.out])
    refine R_tk (v := .int .u64 (M : Nat)) 8 96 hS0.out ?_ (hy := ?_)
    rotate_left
    · intro w hSw; (try dsimp only at hSw); (try simp only [List.setIfInBounds_toArray, List.set_cons_zero, List.set_cons_succ]); go_simp; first | exact HW2.out | (simp only [HW2.out]; done) | (rw [HW2.out])
    refine R_tk 9 97 hS0.out ?_
    simp only [List.setIfInBounds_toArray, List.set_cons_zero, List.set_cons_succ]
    refine R_all (rs := [10, 15]) (by kernel_rfl) (by simp) (fun i hi => ?_)
    simp only [List.mem_cons, List.not_mem_nil, or_false] at hi
    rcases hi with rfl | rfl
    · skip
      have hc := HC2.out (fun b => (fun b => (fun b => b < w2.heap.size ∨ b = gP) b ∨ b = g13) b ∨ b = g14) _ HP.out.drew
      refine op_call 98 (w' := w5.drew) rfl rfl (by rfl) ?_ hc ?_
      · go_simp
      rintro e v1 ⟨rfl, hk1, hp1⟩
      have hi1 := HO.out.kept (Kept.undrew hk1)
      have hS1 := Lib.hid (LawO.s hi1)
      refine ⟨_, rfl, fun _ => hS1.out, ?_⟩
      simp only [List.setIfInBounds_toArray, List.set_cons_zero, List.set_cons_succ]
      clear hc
      refine R_tk 11 87 hS1.out ?_
      refine R_tk 12 99 hS1.out ?_
      refine R_tk 13 100 hS1.out ?_
      refine R_tk 14 101 hS1.out ?_
      simp only [List.setIfInBounds_toArray, List.set_cons_zero, List.set_cons_succ]
      have hi2 := hi1.kept (Kept.of_below ((Below.refl v1.heap.size v1).alloc (Nat.le_refl _) (.cells rwZ 37)) hp1.lt)
      have hS2 := Lib.hid (LawO.s hi2)
      refine R_run 15 17 (v := ptr v1.heap.size) (w' := v1.alloc (.cells rwZ 37)) rfl rfl (by rfl) (by kernel_rfl) ?_ (fun _ => hS2.out) ?_
      · first | (go_simp; done) | (go_simp; rfl)
      simp only [List.setIfInBounds_toArray, List.set_cons_zero, List.set_cons_succ]
      have hn := Blk.new v1 37 rwZ
      have hca := callAt_1 (Kept.undrew hk1) hp1 ((Sp.orZ o2))
      have hS3 := Lib.hid (show (fun (W : World) => W.cell? ⟨gP, 2, none⟩ = some (ptr gp) ∧ W.cell? ⟨g13, 0, none⟩ = some (str (Sp.stRow key l k).key) ∧ W.cell? ⟨g13, 1, none⟩ = some (.bool (Sp.stRow key l k).mark) ∧ W.cell? ⟨g13, 2, none⟩ = some (.int .u64 (Sp.stRow key l k).tx) ∧ W.cell? ⟨g13, 3, none⟩ = some (.int .u32 (Sp.stRow key l k).page) ∧ W.cell? ⟨g13, 4, none⟩ = some (.int .u16 (Sp.stRow key l k).slot) ∧ W.cell? ⟨g13, 5, none⟩ = some (str (Sp.stRow key l k).value) ∧ W.cell? ⟨g13, 6, none⟩ = some (.int .i64 (Sp.stRow key l k).pad)) _ from LawO.s (HO.out.kept hca.choose_spec.2.2.2.1))
      (try simp only [List.setIfInBounds_toArray, List.set_cons_zero, List.set_cons_succ])
      refine R_store 16 (n := .skip) (w' := (v1.alloc (.cells rwZ 37)).setRow v1.heap.size ((Sp.orZ o2))) rfl rfl (by rfl) (by kernel_rfl) (run_op_store _ _ _ _ _ rfl rfl rfl (row_store7 hn (orZ_size _) (orZ_one _))) (.inl rfl) (fun _ => hS3.out) ?_
      refine R_tk 17 18 hS3.out ?_
      refine R_tk 18 19 hS3.out ?_
      simp only [List.setIfInBounds_toArray, List.set_cons_zero, List.set_cons_succ]
      refine R_done (by kernel_rfl) ?_ _
      rename_i K9 hK9
      refine hK9 _ _ ?_
      clear hK9
      go_meet
      case rel => exact ⟨hca, rfl, rfl⟩
    · skip
      obtain ⟨hp1, hk1, hn1⟩ := callAt_0 HP.out
      have hi1 := HO.out.kept hk1
      have hS1 := Lib.hid (LawO.s hi1)
      refine op_run 17 (v := ptr w5.heap.size) (w' := w5.drew.alloc (.cells rwZ 37)) rfl rfl (by rfl) ?_ ⟨fun _ => hS1.out, ?_⟩
      · first | (go_simp; done) | (go_simp; rfl)
      simp only [List.setIfInBounds_toArray, List.set_cons_zero, List.set_cons_succ]
      have hc := HC2.out (fun b => (fun b => (fun b => (fun b => b < w2.heap.size ∨ b = gP) b ∨ b = g13) b ∨ b = g14) b ∨ b = w5.heap.size) _ hp1
      refine R_call 10 98 (w' := w5.drew.alloc (.cells rwZ 37)) rfl rfl (by rfl) (by kernel_rfl) ?_ hc ?_
      · go_simp
      rintro e v2 ⟨rfl, hk2, hp2⟩
      have hi2 := hi1.kept (hk2.mono (fun b hb => .inl hb))
      have hS2 := Lib.hid (LawO.s hi2)
      refine ⟨_, rfl, fun _ => hS2.out, ?_⟩
      simp only [List.setIfInBounds_toArray, List.set_cons_zero, List.set_cons_succ]
      clear hc
      refine R_tk 11 87 hS2.out ?_
      refine R_tk 12 99 hS2.out ?_
      refine R_tk 13 100 hS2.out ?_
      refine R_tk 14 101 hS2.out ?_
      have hca := callAt_2 HP.out hk2 hp2 ((Sp.orZ o2))
      have hS3 := Lib.hid (show (fun (W : World) => W.cell? ⟨gP, 2, none⟩ = some (ptr gp) ∧ W.cell? ⟨g13, 0, none⟩ = some (str (Sp.stRow key l k).key) ∧ W.cell? ⟨g13, 1, none⟩ = some (.bool (Sp.stRow key l k).mark) ∧ W.cell? ⟨g13, 2, none⟩ = some (.int .u64 (Sp.stRow key l k).tx) ∧ W.cell? ⟨g13, 3, none⟩ = some (.int .u32 (Sp.stRow key l k).page) ∧ W.cell? ⟨g13, 4, none⟩ = some (.int .u16 (Sp.stRow key l k).slot) ∧ W.cell? ⟨g13, 5, none⟩ = some (str (Sp.stRow key l k).value) ∧ W.cell? ⟨g13, 6, none⟩ = some (.int .i64 (Sp.stRow key l k).pad)) _ from LawO.s (HO.out.kept hca.choose_spec.2.2.2.1))
      (try simp only [List.setIfInBounds_toArray, List.set_cons_zero, List.set_cons_succ])
      refine R_store 16 (n := .skip) (w' := v2.setRow w5.heap.size ((Sp.orZ o2))) rfl rfl (by rfl) (by kernel_rfl) (run_op_store _ _ _ _ _ rfl rfl rfl (row_store7 (hn1.kept hk2 (.inr rfl)) (orZ_size _) (orZ_one _))) (.inl rfl) (fun _ => hS3.out) ?_
      refine R_tk 17 18 hS3.out ?_
      refine R_tk 18 19 hS3.out ?_
      simp only [List.setIfInBounds_toArray, List.set_cons_zero, List.set_cons_succ]
      refine R_done (by kernel_rfl) ?_ _
      rename_i K9 hK9
      refine hK9 _ _ ?_
      clear hK9
      go_meet
      case rel => exact ⟨hca, rfl, rfl⟩
  case rest =>
  obtain ⟨⟨g17, rfl, hg17, hp14, hk14, hge14⟩, rfl, rfl⟩ := hcut
  obtain ⟨w6, rfl⟩ : ∃ x : World, x = wc := ⟨_, rfl⟩
  replace HO := Lib.hid ((HO.out.kept hk14).mono (K' := fun b => (fun b => (fun b => (fun b => b < w2.heap.size ∨ b = gP) b ∨ b = g13) b ∨ b = g14) b ∨ b = g17) (fun b hb => .inl hb))
  replace HP := Lib.hid hp14
  replace HBW := Lib.hid (HBW.out.trans (hk14.below (fun b hb => HK0.out b hb)))
  replace HK0 := Lib.hid (show ∀ b, b < w.heap.size → (fun b => (fun b => (fun b => (fun b => b < w2.heap.size ∨ b = gP) b ∨ b = g13) b ∨ b = g14) b ∨ b = g17) b from fun b hb => .inl (HK0.out b hb))
  have Hg17 := Lib.hid hg17
  replace Hg14 := Lib.hid (Hg14.out.kept hk14 (.inr rfl))
  clear hg17 hp14 hk14 hge14
  go_upto_region 15 with fail
  go_cut [20, 21, 22] (fun va vb ve wx => CallAt pg (fun b => (fun b => (fun b => (fun b => b < w2.heap.size ∨ b = gP) b ∨ b = g13) b ∨ b = g14) b ∨ b = g17) w6 gd gl gp (Sp.orZ (some (Sp.stRow key l k))) va wx ∧ vb = .bool true ∧ ve = .int .i64 0)
  case first =>
    go_wp2_with fail
    have hS0 := Lib.hid (LawO.s HO.out)
    refine R_begin (fun (W : World) => W.cell? ⟨gP, 2, none⟩ = some (ptr gp) ∧ W.cell? ⟨g13, 0, none⟩ = some (str (Sp.stRow key l k).key) ∧ W.cell? ⟨g13, 1, none⟩ = some (.bool (Sp.stRow key l k).mark) ∧ W.cell? ⟨g13, 2, none⟩ = some (.int .u64 (Sp.stRow key l k).tx) ∧ W.cell? ⟨g13, 3, none⟩ = some (.int .u32 (Sp.stRow key l k).page) ∧ W.cell? ⟨g13, 4, none⟩ = some (.int .u16 (Sp.stRow key l k).slot) ∧ W.cell? ⟨g13, 5, none⟩ = some (str (Sp.stRow key l k).value) ∧ W.cell? ⟨g13, 6, none⟩ = some (.int .i64 (Sp.stRow key l k).pad)) (fun _ => false) rfl ?_
    refine R_tk 0 103 hS0.out ?_
    refine R_tk 1 104 hS0.out ?_
    refine R_tk 2 105 hS0.out ?_
    refine R_tk 3 106 hS0.out ?_
    refine R_tk 4 107 hS0.out ?_
    refine R_tk 5 108 hS0.out ?_
    simp only [List.setIfInBounds_toArray, List.set_cons_zero, List.set_cons_succ]
    refine R_all (rs := [6, 11]) (by kernel_rfl) (by simp) (fun i hi => ?_)
    simp only [List.mem_cons, List.not_mem_nil, or_false] at hi
    rcases hi with rfl | rfl
    · skip
      have hc := HC3.out (fun b => (fun b => (fun b => (fun b => b < w2.heap.size ∨ b = gP) b ∨ b = g13) b ∨ b = g14) b ∨ b = g17) _ HP.out.drew
      refine op_call 109 (w' := w6.drew) rfl rfl (by rfl) ?_ hc ?_
      · go_simp
      rintro e v1 ⟨rfl, hk1, hp1⟩
      have hi1 := HO.out.kept (Kept.undrew hk1)
      have hS1 := Lib.hid (LawO.s hi1)
      refine ⟨_, rfl, fun _ => hS1.out, ?_⟩
      simp only [List.setIfInBounds_toArray, List.set_cons_zero, List.set_cons_succ]
      clear hc
      refine R_tk 7 102 hS1.out ?_
      refine R_tk 8 110 hS1.out ?_
      refine R_tk 9 111 hS1.out ?_
      refine R_tk 10 112 hS1.out ?_
      simp only [List.setIfInBounds_toArray, List.set_cons_zero, List.set_cons_succ]
      have hi2 := hi1.kept (Kept.of_below ((Below.refl v1.heap.size v1).alloc (Nat.le_refl _) (.cells rwZ 37)) hp1.lt)
      have hS2 := Lib.hid (LawO.s hi2)
      refine R_run 11 20 (v := ptr v1.heap.size) (w' := v1.alloc (.cells rwZ 37)) rfl rfl (by rfl) (by kernel_rfl) ?_ (fun _ => hS2.out) ?_
      · first | (go_simp; done) | (go_simp; rfl)
      simp only [List.setIfInBounds_toArray, List.set_cons_zero, List.set_cons_succ]
      have hn := Blk.new v1 37 rwZ
      have hca := callAt_1 (Kept.undrew hk1) hp1 ((Sp.orZ (some (Sp.stRow key l k))))
      have hS3 := Lib.hid (show (fun (W : World) => W.cell? ⟨gP, 2, none⟩ = some (ptr gp) ∧ W.cell? ⟨g13, 0, none⟩ = some (str (Sp.stRow key l k).key) ∧ W.cell? ⟨g13, 1, none⟩ = some (.bool (Sp.stRow key l k).mark) ∧ W.cell? ⟨g13, 2, none⟩ = some (.int .u64 (Sp.stRow key l k).tx) ∧ W.cell? ⟨g13, 3, none⟩ = some (.int .u32 (Sp.stRow key l k).page) ∧ W.cell? ⟨g13, 4, none⟩ = some (.int .u16 (Sp.stRow key l k).slot) ∧ W.cell? ⟨g13, 5, none⟩ = some (str (Sp.stRow key l k).value) ∧ W.cell? ⟨g13, 6, none⟩ = some (.int .i64 (Sp.stRow key l k).pad)) _ from LawO.s (HO.out.kept hca.choose_spec.2.2.2.1))
      (try simp only [List.setIfInBounds_toArray, List.set_cons_zero, List.set_cons_succ])
      refine R_store 12 (n := .skip) (w' := (v1.alloc (.cells rwZ 37)).setRow v1.heap.size ((Sp.orZ (some (Sp.stRow key l k))))) rfl rfl (by rfl) (by kernel_rfl) (run_op_store _ _ _ _ _ rfl rfl rfl (row_store7 hn (orZ_size _) (orZ_one _))) (.inl rfl) (fun _ => hS3.out) ?_
      refine R_tk 13 21 hS3.out ?_
      refine R_tk 14 22 hS3.out ?_
      simp only [List.setIfInBounds_toArray, List.set_cons_zero, List.set_cons_succ]
      refine R_done (by kernel_rfl) ?_ _
      rename_i K9 hK9
      refine hK9 _ _ ?_
      clear hK9
      go_meet
      case rel => exact ⟨hca, rfl, rfl⟩
    · skip
      obtain ⟨hp1, hk1, hn1⟩ := callAt_0 HP.out
      have hi1 := HO.out.kept hk1
      have hS1 := Lib.hid (LawO.s hi1)
      refine op_run 20 (v := ptr w6.heap.size) (w' := w6.drew.alloc (.cells rwZ 37)) rfl rfl (by rfl) ?_ ⟨fun _ => hS1.out, ?_⟩
      · first | (go_simp; done) | (go_simp; rfl)
      simp only [List.setIfInBounds_toArray, List.set_cons_zero, List.set_cons_succ]
      have hc := HC3.out (fun b => (fun b => (fun b => (fun b => (fun b => b < w2.heap.size ∨ b = gP) b ∨ b = g13) b ∨ b = g14) b ∨ b = g17) b ∨ b = w6.heap.size) _ hp1
      refine R_call 6 109 (w' := w6.drew.alloc (.cells rwZ 37)) rfl rfl (by rfl) (by kernel_rfl) ?_ hc ?_
      · go_simp
      rintro e v2 ⟨rfl, hk2, hp2⟩
      have hi2 := hi1.kept (hk2.mono (fun b hb => .inl hb))
      have hS2 := Lib.hid (LawO.s hi2)
      refine ⟨_, rfl, fun _ => hS2.out, ?_⟩
      simp only [List.setIfInBounds_toArray, List.set_cons_zero, List.set_cons_succ]
      clear hc
      refine R_tk 7 102 hS2.out ?_
      refine R_tk 8 110 hS2.out ?_
      refine R_tk 9 111 hS2.out ?_
      refine R_tk 10 112 hS2.out ?_
      have hca := callAt_2 HP.out hk2 hp2 ((Sp.orZ (some (Sp.stRow key l k))))
      have hS3 := Lib.hid (show (fun (W : World) => W.cell? ⟨gP, 2, none⟩ = some (ptr gp) ∧ W.cell? ⟨g13, 0, none⟩ = some (str (Sp.stRow key l k).key) ∧ W.cell? ⟨g13, 1, none⟩ = some (.bool (Sp.stRow key l k).mark) ∧ W.cell? ⟨g13, 2, none⟩ = some (.int .u64 (Sp.stRow key l k).tx) ∧ W.cell? ⟨g13, 3, none⟩ = some (.int .u32 (Sp.stRow key l k).page) ∧ W.cell? ⟨g13, 4, none⟩ = some (.int .u16 (Sp.stRow key l k).slot) ∧ W.cell? ⟨g13, 5, none⟩ = some (str (Sp.stRow key l k).value) ∧ W.cell? ⟨g13, 6, none⟩ = some (.int .i64 (Sp.stRow key l k).pad)) _ from LawO.s (HO.out.kept hca.choose_spec.2.2.2.1))
      (try simp only [List.setIfInBounds_toArray, List.set_cons_zero, List.set_cons_succ])
      refine R_store 12 (n := .skip) (w' := v2.setRow w6.heap.size ((Sp.orZ (some (Sp.stRow key l k))))) rfl rfl (by rfl) (by kernel_rfl) (run_op_store _ _ _ _ _ rfl rfl rfl (row_store7 (hn1.kept hk2 (.inr rfl)) (orZ_size _) (orZ_one _))) (.inl rfl) (fun _ => hS3.out) ?_
      refine R_tk 13 21 hS3.out ?_
      refine R_tk 14 22 hS3.out ?_
      simp only [List.setIfInBounds_toArray, List.set_cons_zero, List.set_cons_succ]
      refine R_done (by kernel_rfl) ?_ _
      rename_i K9 hK9
      refine hK9 _ _ ?_
      clear hK9
      go_meet
      case rel => exact ⟨hca, rfl, rfl⟩
  case rest =>
  obtain ⟨⟨g20, rfl, hg20, hp15, hk15, hge15⟩, rfl, rfl⟩ := hcut
  obtain ⟨w7, rfl⟩ : ∃ x : World, x = wc := ⟨_, rfl⟩
  replace HO := Lib.hid ((HO.out.kept hk15).mono (K' := fun b => (fun b => (fun b => (fun b => (fun b => b < w2.heap.size ∨ b = gP) b ∨ b = g13) b ∨ b = g14) b ∨ b = g17) b ∨ b = g20) (fun b hb => .inl hb))
  replace HP := Lib.hid hp15
  replace HBW := Lib.hid (HBW.out.trans (hk15.below (fun b hb => HK0.out b hb)))
  replace HK0 := Lib.hid (show ∀ b, b < w.heap.size → (fun b => (fun b => (fun b => (fun b => (fun b => b < w2.heap.size ∨ b = gP) b ∨ b = g13) b ∨ b = g14) b ∨ b = g17) b ∨ b = g20) b from fun b hb => .inl (HK0.out b hb))
  have Hg20 := Lib.hid hg20
  replace Hg14 := Lib.hid (Hg14.out.kept hk15 (.inl (.inr rfl)))
  replace Hg17 := Lib.hid (Hg17.out.kept hk15 (.inr rfl))
  clear hg20 hp15 hk15 hge15
  obtain ⟨H14, H17, H20⟩ : Blk w7 g14 37 (Sp.orZ o1) ∧ Blk w7 g17 37 (Sp.orZ o2) ∧ Blk w7 g20 37 (rwCs (Sp.stRow key l k)).toArray := ⟨Hg14.out, Hg17.out, Hg20.out⟩
  replace Hg14 := Lib.hid H14
  replace Hg17 := Lib.hid H17
  replace Hg20 := Lib.hid H20
  clear H14 H17 H20 HC1 HC2 HC3 HP HW1 HW2 HMIN HMAX HMK
  obtain ⟨os1, hb1⟩ : ∃ b : Bool, b = o1.isSome := ⟨_, rfl⟩
  obtain ⟨os2, hb2⟩ : ∃ b : Bool, b = o2.isSome := ⟨_, rfl⟩
  rw [← hb1, ← hb2]
  have HB1 := Lib.hid (show os1 = decide (p ≠ 0) by rw [hb1, HO1.out]; split <;> simp_all)
  have HB2 := Lib.hid (show os2 = decide (q ≠ 0) by rw [hb2, HO2.out]; split <;> simp_all)
  clear hb1 hb2
  go_upto_region 16 with fail
  go_cut [138] (fun v wx => v = .bool false ∧ wx = w7)
  case first =>
    obtain ⟨_, a0, a1, a2, a3, a4, a5, a6⟩ := LawO.s HO.out
    obtain ⟨b0, b1, b2, b3, b4, b5, b6⟩ := vrow_cells (r := Sp.stRow key l k) Hg20.out
    cases os1 with
    | false =>
      go_wp2_with fail
      go_meet
      case rel => exact ⟨rfl, rfl⟩
    | true =>
      obtain rfl : os2 = true := by
        have h1 : p ≠ 0 := by have := HB1.out; simpa using this
        rw [HB2.out]; simp; omega
      go_wp2_with fail
      go_meet
      case rel => exact ⟨rfl, rfl⟩
  case rest =>
  obtain ⟨rfl, rfl⟩ := hcut
  clear Hg20
  go_wp2_with fail
  go_loopw [23, 24, 25] (fun x y i wr => ∃ j : Nat, j ≤ l.length ∧ x = .int .i64 (Sp.sx p j) ∧ y = .int .i64 (Sp.sx q j) ∧ i = .int .i64 j ∧ ∃ n, wr = wc.drewN n) (fun _ _ i _ => l.length - (intOf i).toNat)
  case atStart => exact ⟨0, by omega, by rw [Sp.sx_zero], by rw [Sp.sx_zero], rfl, 0, rfl⟩
  case round =>
  obtain ⟨j, hj, rfl, rfl, rfl, n0, hw⟩ := hrel
  have HWN := Lib.hid hw
  clear hw
  by_cases hlt : j < l.length
  · have wr1 : IntKind.i64.wrap ((j : Int) + 1) = ((j + 1 : Nat) : Int) := by rw [IntKind.wrap_i64]; omega
    have HWR := Lib.hid wr1
    clear wr1
    have hil : decide ((j : Int) < (l.length : Int)) = true := by rw [decide_eq_true_eq]; omega
    go_upto_region 22 with fail
    go_cut [153] from 139 to 164 (fun v wx => v = .bool (decide (p = j + 1)) ∧ ∃ n, wx = wr.drewN n)
    case first =>
      rename_i J9 K9 hJ9 hK9
      cases os1 with
      | false =>
        have HE2 := Lib.hid (show decide (p = j + 1) = false by
          have h0 : p = 0 := by have := HB1.out; simpa using this
          rw [decide_eq_false_iff_not]; omega)
        go_quiet (fail)
        refine hK9 _ _ ?_
        clear hK9
        go_meet
        case rel => exact ⟨by rw [HE2.out], by first | exact ⟨_, rfl⟩ | exact ⟨_, World.drewN_drewN _ _ _⟩⟩
      | true =>
        have h0 : 0 < p := by have := HB1.out; simp at this; omega
        obtain ⟨p1, hp1⟩ : ∃ m, m = p - 1 := ⟨_, rfl⟩
        have e3 : o1 = some (Sp.stRow key l p1) := by rw [HO1.out, if_neg (by omega), hp1]
        have hb : decide (p = j + 1) = true ↔ Sp.stRow key l j = Sp.stRow key l p1 := by
          rw [decide_eq_true_eq]
          refine ⟨fun h => by rw [hp1, h, Nat.add_sub_cancel], fun h => ?_⟩
          have := Sp.stRow_ne (by omega) (by have := HKE.out; omega) h
          omega
        have HBB := Lib.hid hb
        have hS0 : Hid ((fun (W : World) => W.cell? ⟨gv, j * 7, none⟩ = some (str (Sp.stRow key l j).key) ∧ W.cell? ⟨gv, j * 7 + 1, none⟩ = some (.bool (Sp.stRow key l j).mark) ∧ W.cell? ⟨gv, j * 7 + 2, none⟩ = some (.int .u64 (Sp.stRow key l j).tx) ∧ W.cell? ⟨gv, j * 7 + 3, none⟩ = some (.int .u32 (Sp.stRow key l j).page) ∧ W.cell? ⟨gv, j * 7 + 4, none⟩ = some (.int .u16 (Sp.stRow key l j).slot) ∧ W.cell? ⟨gv, j * 7 + 5, none⟩ = some (str (Sp.stRow key l j).value) ∧ W.cell? ⟨gv, j * 7 + 6, none⟩ = some (.int .i64 (Sp.stRow key l j).pad) ∧ W.cell? ⟨g14, 0, none⟩ = some (str (Sp.stRow key l p1).key) ∧ W.cell? ⟨g14, 1, none⟩ = some (.bool (Sp.stRow key l p1).mark) ∧ W.cell? ⟨g14, 2, none⟩ = some (.int .u64 (Sp.stRow key l p1).tx) ∧ W.cell? ⟨g14, 3, none⟩ = some (.int .u32 (Sp.stRow key l p1).page) ∧ W.cell? ⟨g14, 4, none⟩ = some (.int .u16 (Sp.stRow key l p1).slot) ∧ W.cell? ⟨g14, 5, none⟩ = some (str (Sp.stRow key l p1).value) ∧ W.cell? ⟨g14, 6, none⟩ = some (.int .i64 (Sp.stRow key l p1).pad)) (wr.drewN 1)) := Lib.hid (by
          obtain ⟨_, a0, a1, a2, a3, a4, a5, a6⟩ := HO.out.i.s hlt
          obtain ⟨b0, b1, b2, b3, b4, b5, b6⟩ := vrow_cells (r := Sp.stRow key l p1) (by have := Hg14.out; rw [e3] at this; exact this)
          rw [HWN.out]
          exact ⟨a0, a1, a2, a3, a4, a5, a6, b0, b1, b2, b3, b4, b5, b6⟩)
        clear hb e3 hp1
        go_wp2_with fail
        refine R_begin (fun (W : World) => W.cell? ⟨gv, j * 7, none⟩ = some (str (Sp.stRow key l j).key) ∧ W.cell? ⟨gv, j * 7 + 1, none⟩ = some (.bool (Sp.stRow key l j).mark) ∧ W.cell? ⟨gv, j * 7 + 2, none⟩ = some (.int .u64 (Sp.stRow key l j).tx) ∧ W.cell? ⟨gv, j * 7 + 3, none⟩ = some (.int .u32 (Sp.stRow key l j).page) ∧ W.cell? ⟨gv, j * 7 + 4, none⟩ = some (.int .u16 (Sp.stRow key l j).slot) ∧ W.cell? ⟨gv, j * 7 + 5, none⟩ = some (str (Sp.stRow key l j).value) ∧ W.cell? ⟨gv, j * 7 + 6, none⟩ = some (.int .i64 (Sp.stRow key l j).pad) ∧ W.cell? ⟨g14, 0, none⟩ = some (str (Sp.stRow key l p1).key) ∧ W.cell? ⟨g14, 1, none⟩ = some (.bool (Sp.stRow key l p1).mark) ∧ W.cell? ⟨g14, 2, none⟩ = some (.int .u64 (Sp.stRow key l p1).tx) ∧ W.cell? ⟨g14, 3, none⟩ = some (.int .u32 (Sp.stRow key l p1).page) ∧ W.cell? ⟨g14, 4, none⟩ = some (.int .u16 (Sp.stRow key l p1).slot) ∧ W.cell? ⟨g14, 5, none⟩ = some (str (Sp.stRow key l p1).value) ∧ W.cell? ⟨g14, 6, none⟩ = some (.int .i64 (Sp.stRow key l p1).pad)) (fun _ => false) rfl ?_
        refine R_tk 0 145 hS0.out ?_
        refine R_tk 1 146 hS0.out ?_
        simp only [List.setIfInBounds_toArray, List.set_cons_zero, List.set_cons_succ]
        refine R_tk 2 147 hS0.out ?_
        refine R_tk 3 148 hS0.out ?_
        refine R_tk 4 149 hS0.out ?_
        refine R_tk 5 150 hS0.out ?_
        refine R_tk 6 151 hS0.out ?_
        refine R_tk (v := .bool (decide (p = j + 1))) 7 152 hS0.out ?_ (hy := ?_)
        rotate_left
        · intro w _
          (try simp only [List.setIfInBounds_toArray, List.set_cons_zero, List.set_cons_succ])
          exact run_op_roweq (.tmp 150) (.tmp 151) _ (Sp.stRow key l j) (Sp.stRow key l p1) (decide (p = j + 1)) rfl rfl rfl HBB.out
        refine R_tk 8 153 hS0.out ?_
        simp only [List.setIfInBounds_toArray, List.set_cons_zero, List.set_cons_succ]
        refine R_done (by kernel_rfl) ?_ _
        refine hK9 _ _ ?_
        clear hK9
        go_meet
        case rel => exact ⟨rfl, by first | exact ⟨1, rfl⟩ | exact ⟨_, rfl⟩ | exact ⟨_, World.drewN_drewN _ _ _⟩⟩
    case rest =>
    obtain ⟨rfl, n1, hw2⟩ := hcut
    subst hw2
    go_upto_if 153 with fail
    go_cut [23] from 139 to 164 (fun v wx => v = .int .i64 (Sp.sx p (j + 1)) ∧ wx = wr.drewN n1)
    case first =>
      by_cases hb : p = j + 1
      · have e2 : decide (p = j + 1) = true := by rw [decide_eq_true_eq]; exact hb
        rw [e2]
        go_wp2_with fail
        go_meet
        case rel => exact ⟨by rw [Sp.sx_at hb], rfl⟩
      · have e2 : decide (p = j + 1) = false := by rw [decide_eq_false_iff_not]; exact hb
        rw [e2]
        go_wp2_with fail
        go_meet
        case rel => exact ⟨by rw [Sp.sx_skip hb], rfl⟩
    case rest =>
    obtain ⟨rfl, hw2⟩ := hcut
    subst hw2
    go_upto_region 24 with fail
    go_cut [163] from 139 to 164 (fun v wx => v = .bool (decide (q = j + 1)) ∧ ∃ n, wx = wr.drewN n)
    case first =>
      rename_i J9 K9 hJ9 hK9
      cases os2 with
      | false =>
        have HE2 := Lib.hid (show decide (q = j + 1) = false by
          have h0 : q = 0 := by have := HB2.out; simpa using this
          rw [decide_eq_false_iff_not]; omega)
        go_quiet (fail)
        refine hK9 _ _ ?_
        clear hK9
        go_meet
        case rel => exact ⟨by rw [HE2.out], by first | exact ⟨_, rfl⟩ | exact ⟨_, World.drewN_drewN _ _ _⟩⟩
      | true =>
        have h0 : 0 < q := by have := HB2.out; simp at this; omega
        obtain ⟨q1, hp1⟩ : ∃ m, m = q - 1 := ⟨_, rfl⟩
        have e3 : o2 = some (Sp.stRow key l q1) := by rw [HO2.out, if_neg (by omega), hp1]
        have hb : decide (q = j + 1) = true ↔ Sp.stRow key l j = Sp.stRow key l q1 := by
          rw [decide_eq_true_eq]
          refine ⟨fun h => by rw [hp1, h, Nat.add_sub_cancel], fun h => ?_⟩
          have := Sp.stRow_ne (by omega) (by have := HKE.out; omega) h
          omega
        have HBB := Lib.hid hb
        have hS0 : Hid ((fun (W : World) => W.cell? ⟨gv, j * 7, none⟩ = some (str (Sp.stRow key l j).key) ∧ W.cell? ⟨gv, j * 7 + 1, none⟩ = some (.bool (Sp.stRow key l j).mark) ∧ W.cell? ⟨gv, j * 7 + 2, none⟩ = some (.int .u64 (Sp.stRow key l j).tx) ∧ W.cell? ⟨gv, j * 7 + 3, none⟩ = some (.int .u32 (Sp.stRow key l j).page) ∧ W.cell? ⟨gv, j * 7 + 4, none⟩ = some (.int .u16 (Sp.stRow key l j).slot) ∧ W.cell? ⟨gv, j * 7 + 5, none⟩ = some (str (Sp.stRow key l j).value) ∧ W.cell? ⟨gv, j * 7 + 6, none⟩ = some (.int .i64 (Sp.stRow key l j).pad) ∧ W.cell? ⟨g17, 0, none⟩ = some (str (Sp.stRow key l q1).key) ∧ W.cell? ⟨g17, 1, none⟩ = some (.bool (Sp.stRow key l q1).mark) ∧ W.cell? ⟨g17, 2, none⟩ = some (.int .u64 (Sp.stRow key l q1).tx) ∧ W.cell? ⟨g17, 3, none⟩ = some (.int .u32 (Sp.stRow key l q1).page) ∧ W.cell? ⟨g17, 4, none⟩ = some (.int .u16 (Sp.stRow key l q1).slot) ∧ W.cell? ⟨g17, 5, none⟩ = some (str (Sp.stRow key l q1).value) ∧ W.cell? ⟨g17, 6, none⟩ = some (.int .i64 (Sp.stRow key l q1).pad)) (wr.drewN (n1 + 1))) := Lib.hid (by
          obtain ⟨_, a0, a1, a2, a3, a4, a5, a6⟩ := HO.out.i.s hlt
          obtain ⟨b0, b1, b2, b3, b4, b5, b6⟩ := vrow_cells (r := Sp.stRow key l q1) (by have := Hg17.out; rw [e3] at this; exact this)
          rw [HWN.out]
          exact ⟨a0, a1, a2, a3, a4, a5, a6, b0, b1, b2, b3, b4, b5, b6⟩)
        clear hb e3 hp1
        go_wp2_with fail
        refine R_begin (fun (W : World) => W.cell? ⟨gv, j * 7, none⟩ = some (str (Sp.stRow key l j).key) ∧ W.cell? ⟨gv, j * 7 + 1, none⟩ = some (.bool (Sp.stRow key l j).mark) ∧ W.cell? ⟨gv, j * 7 + 2, none⟩ = some (.int .u64 (Sp.stRow key l j).tx) ∧ W.cell? ⟨gv, j * 7 + 3, none⟩ = some (.int .u32 (Sp.stRow key l j).page) ∧ W.cell? ⟨gv, j * 7 + 4, none⟩ = some (.int .u16 (Sp.stRow key l j).slot) ∧ W.cell? ⟨gv, j * 7 + 5, none⟩ = some (str (Sp.stRow key l j).value) ∧ W.cell? ⟨gv, j * 7 + 6, none⟩ = some (.int .i64 (Sp.stRow key l j).pad) ∧ W.cell? ⟨g17, 0, none⟩ = some (str (Sp.stRow key l q1).key) ∧ W.cell? ⟨g17, 1, none⟩ = some (.bool (Sp.stRow key l q1).mark) ∧ W.cell? ⟨g17, 2, none⟩ = some (.int .u64 (Sp.stRow key l q1).tx) ∧ W.cell? ⟨g17, 3, none⟩ = some (.int .u32 (Sp.stRow key l q1).page) ∧ W.cell? ⟨g17, 4, none⟩ = some (.int .u16 (Sp.stRow key l q1).slot) ∧ W.cell? ⟨g17, 5, none⟩ = some (str (Sp.stRow key l q1).value) ∧ W.cell? ⟨g17, 6, none⟩ = some (.int .i64 (Sp.stRow key l q1).pad)) (fun _ => false) rfl ?_
        refine R_tk 0 155 hS0.out ?_
        refine R_tk 1 156 hS0.out ?_
        simp only [List.setIfInBounds_toArray, List.set_cons_zero, List.set_cons_succ]
        refine R_tk 2 157 hS0.out ?_
        refine R_tk 3 158 hS0.out ?_
        refine R_tk 4 159 hS0.out ?_
        refine R_tk 5 160 hS0.out ?_
        refine R_tk 6 161 hS0.out ?_
        refine R_tk (v := .bool (decide (q = j + 1))) 7 162 hS0.out ?_ (hy := ?_)
        rotate_left
        · intro w _
          (try simp only [List.setIfInBounds_toArray, List.set_cons_zero, List.set_cons_succ])
          exact run_op_roweq (.tmp 160) (.tmp 161) _ (Sp.stRow key l j) (Sp.stRow key l q1) (decide (q = j + 1)) rfl rfl rfl HBB.out
        refine R_tk 8 163 hS0.out ?_
        simp only [List.setIfInBounds_toArray, List.set_cons_zero, List.set_cons_succ]
        refine R_done (by kernel_rfl) ?_ _
        refine hK9 _ _ ?_
        clear hK9
        go_meet
        case rel => exact ⟨rfl, by first | exact ⟨1, rfl⟩ | exact ⟨_, rfl⟩ | exact ⟨_, World.drewN_drewN _ _ _⟩⟩
    case rest =>
    obtain ⟨rfl, n2, hw2⟩ := hcut
    subst hw2
    by_cases hb : q = j + 1
    · have e2 : decide (q = j + 1) = true := by rw [decide_eq_true_eq]; exact hb
      rw [e2]
      go_wp2_with fail
      (try rw [HWR.out])
      go_roundw
      case rel => exact ⟨j + 1, hlt, rfl, by rw [Sp.sx_at hb], rfl, by rw [HWN.out]; first | exact ⟨_, rfl⟩ | exact ⟨_, by rw [World.drewN_drewN]⟩ | exact ⟨_, by rw [World.drewN_drewN, World.drewN_drewN]⟩⟩
      case measure => simp [intOf]; omega
    · have e2 : decide (q = j + 1) = false := by rw [decide_eq_false_iff_not]; exact hb
      rw [e2]
      go_wp2_with fail
      (try rw [HWR.out])
      go_roundw
      case rel => exact ⟨j + 1, hlt, rfl, by rw [Sp.sx_skip hb], rfl, by rw [HWN.out]; first | exact ⟨_, rfl⟩ | exact ⟨_, by rw [World.drewN_drewN]⟩ | exact ⟨_, by rw [World.drewN_drewN, World.drewN_drewN]⟩⟩
      case measure => simp [intOf]; omega
  obtain rfl : j = l.length := by omega
  clear hj hlt
  replace HBW := Lib.hid (show Below w.heap.size w wr by rw [HWN.out]; exact below_drewN HBW.out n0)
  rw [Sp.sx_end (show p ≤ l.length by have := HKE.out; omega), Sp.sx_end (show q ≤ l.length by have := HKE.out; omega)]
  rcases Nat.eq_zero_or_pos p with h0 | h0
  · have e1 : os1 = false := by rw [HB1.out]; simp [h0]
    subst h0
    rw [e1]
    rcases Nat.eq_zero_or_pos q with h1' | h1'
    · have e2 : os2 = false := by rw [HB2.out]; simp [h1']
      subst h1'
      rw [e2]
      go_wp2_with fail
      refine (HW.out _).mono ?_
      rintro e w8 ⟨rfl, hb8⟩
      go_wp2_with fail
      go_ret
      have hz4 := HBW.out.size
      exact ⟨rfl, HBW.out.trans (hb8.mono hz4)⟩
    · have e2 : os2 = true := by rw [HB2.out]; simp; omega
      obtain ⟨q1, rfl⟩ : ∃ m, q = m + 1 := ⟨q - 1, by omega⟩
      rw [e2, show ((q1 + 1 : Nat) : Int) - 1 = (q1 : Int) by omega]
      go_wp2_with fail
      refine (HW.out _).mono ?_
      rintro e w8 ⟨rfl, hb8⟩
      go_wp2_with fail
      go_ret
      have hz4 := HBW.out.size
      exact ⟨rfl, HBW.out.trans (hb8.mono hz4)⟩
  · have e1 : os1 = true := by rw [HB1.out]; simp; omega
    have e2 : os2 = true := by rw [HB2.out]; simp; omega
    obtain ⟨p1, rfl⟩ : ∃ m, p = m + 1 := ⟨p - 1, by omega⟩
    obtain ⟨q1, rfl⟩ : ∃ m, q = m + 1 := ⟨q - 1, by omega⟩
    have dpq : decide ((p1 : Int) ≤ (q1 : Int)) = true := by rw [decide_eq_true_eq]; omega
    rw [e1, e2, show ((p1 + 1 : Nat) : Int) - 1 = (p1 : Int) by omega, show ((q1 + 1 : Nat) : Int) - 1 = (q1 : Int) by omega]
    go_wp2_with fail
    refine (HW.out _).mono ?_
    rintro e w8 ⟨rfl, hb8⟩
    go_wp2_with fail
    go_ret
    have hz4 := HBW.out.size
    exact ⟨rfl, HBW.out.trans (hb8.mono hz4)⟩
end Go.Proofs.YtphkggcdfkcidaaGreat

/- PastOlder answers true for every key, every list of changes and every two numbers: the row of the law, proved for every input, with no condition. -/
namespace Go.Proofs.YtphkggcdfkcidaaGreat
open Go.ChangeShapes Go.WideShapes Go.ChangeAt Go.RowKit Go.Deep

theorem Tryz.ownO : ownKnob Tryz.prog.godebug = none := by kernel_rfl
theorem Tryz.laidOutO : laidOutB Tryz.prog = true := by kernel_rfl

set_option maxRecDepth 100000 in
set_option maxHeartbeats 2000000 in
theorem older_lifted (os : Os) (started : os.Started) (H : Type) (enc : TypeId × Value → H) :
    ReturnsInHanded {} Tryz.checked os 4 .any (Rows.pastOlderSpec.pre6 enc Tryz.prog Tryz.f4 Rows.pastOlderRow.domain false) (Rows.pastOlderSpec.post enc Tryz.prog Tryz.f4 false true false false) := by
  refine returnsInHanded_of_change_sized (C := Tryz.checked) Tryz.ownO started (by kernel_rfl) Tryz.func4
    (ChangeSpec.witness6 (enc := enc) (C := Tryz.checked) false ⟨#[], #[.string ⟨#[]⟩, .slice none 0 0, .int .u8 0, .int .u8 0], []⟩ 8 (by kernel_rfl) (by kernel_rfl) (by kernel_rfl) (by kernel_rfl)) ?_
  intro W base args ds gs before hval0 hW _ hsz0 _
  have hval : ∀ (j : Nat) t v, Tryz.f4.params[j]? = some t → args[j]? = some v → Value.okWide Tryz.prog W .any base t v := hval0
  have hsz : (DataW.weightsEach Tryz.prog (Tryz.f4.params.toList ++ Rows.pastOlderSpec.plain.varTypes Tryz.prog) (ds ++ gs)).all (· ≤ reachBytes) = true := hsz0
  have hW' := hW
  obtain ⟨p, q, hA0, hV, rfl, hfz, hnd⟩ := hW
  have hA : DataW.TrodAll enc Tryz.prog W 0 (fun _ => true) true Tryz.f4.params.toList args.toList ds p := hA0
  rw [Tryz.params4] at hA hval hsz
  obtain ⟨v0, v1, v2, v3, d0, d1, d2, d3, p0, p1, p2, p3, rfl, rfl, rfl, h0, h1, h2, h3⟩ := trodAll_four hA
  obtain ⟨rfl, rfl⟩ := trodVars_none hV
  obtain ⟨key, rfl, rfl, rfl, hks⟩ := Go.ChangeMaps.open_string Tryz.underlying9 (hval 0 9 v0 rfl rfl) h0
  obtain ⟨A, n1, c1, rfl⟩ := okWide_slice Tryz.underlying22 (hval 1 22 v1 rfl rfl)
  obtain ⟨b0, rfl, rfl, rfl, wb⟩ := open_int Tryz.underlying5 (hval 2 5 v2 rfl rfl) h2
  obtain ⟨c0, rfl, rfl, rfl, wc⟩ := open_int Tryz.underlying5 (hval 3 5 v3 rfl rfl) h3
  obtain ⟨n1', h1'⟩ := h1
  have hkz := small_string (small_arg hsz (j := 0) rfl rfl)
  obtain ⟨A, c, l, hcs, hR, hll, hl⟩ := steps_opened h1' (small_arg hsz (j := 1) rfl rfl)
  obtain ⟨rfl, rfl, rfl⟩ : _ ∧ _ ∧ _ := by simpa using hcs
  obtain ⟨one, rfl, hone⟩ := u8_nat wb
  obtain ⟨two, rfl, htwo⟩ := u8_nat wc
  clear hA0 hval0
  have fin : Calls Tryz.prog 4 #[str key.data.toList, .slice A l.length c1, .int .u8 one, .int .u8 two] W fun e w' => e = .returned (.bool true) ∧ Below W.heap.size W w' := by
    by_cases hin : hzB l = false ∧ 1 ≤ l.length ∧ 1 ≤ key.data.toList.length ∧ key.data.toList.length ≤ 48
    · obtain ⟨hz, g1, g2, g3⟩ := hin
      exact law_older_in key.data.toList ⟨g2, g3⟩ l g1 hz (fun x hx => (hl x hx).1) one two (min one two) (max one two) c1 (by omega) (by omega) (by omega) (by omega) A W hR
    · exact law_older_out key.data.toList l one two c1 A (by omega) (fun x hx => by have := (hl x hx).2; omega) (by omega) _ W hR hin
  rw [show str key.data.toList = .string key by simp [str]] at fin
  refine fin.mono fun e W' ⟨he, hb⟩ => ?_
  subst he
  exact ⟨_, rfl, law_post (TB := 4) Tryz.laidOutO (by rw [Tryz.params4]; intro t ht; simp at ht; rcases ht with rfl | rfl | rfl | rfl <;> exact ⟨by kernel_rfl, of_decide_eq_true (by kernel_rfl)⟩) Tryz.underlying4 rfl rfl hW' rfl hb⟩

theorem older_holds : Rows.PastOlderSaid :=
  OpenClaim.holds_of_wide 4 Tryz.f4 rfl rfl rfl rfl rfl rfl rfl ⟨rfl, rfl, rfl, rfl, rfl⟩ rfl rfl rfl rfl rfl (by kernel_rfl) Tryz.func4 (by kernel_rfl)
    (of_decide_eq_true (by kernel_rfl)) (by unfold Func.isWrapper; rw [if_neg (of_decide_eq_false (by kernel_rfl))]; exact ⟨rfl, rfl⟩)
    (fun os started H enc _ => older_lifted os started H enc)
end Go.Proofs.YtphkggcdfkcidaaGreat
