/- The walks of disk.Loose, pool.Pins and pool.Dirty, of a pool on given pages of which none is pinned. -/
import Derived.Test.YtphkggcdfkcidaaGreatMAL
import Derived.Deep.CutBlock

namespace Go.Proofs.YtphkggcdfkcidaaGreat
open Go.RowKit Go.Conc

set_option maxRecDepth 100000 in
set_option maxHeartbeats 2000000 in
theorem disk_loose {F : Foot} {w : World} {g : Nat} {d : Sp.Dk} (h : IsDk F w g d) (hl : d.loose = []) :
    Calls Tryz.prog 16 #[ptr g] w fun e w' => e = .returned (.int .i64 0) ∧ w' = w := by
  obtain ⟨h1, h2, a, v, h3, h4, h5, h6⟩ := h
  have c1 := h3.cell 1
  simp only [dkCells, List.getElem?_toArray, List.getElem?_cons_zero, List.getElem?_cons_succ] at c1
  have HN := Lib.hid (disk_none h3 h1.some_)
  have hv : ∃ A c, v = .slice A 0 c := by
    rw [hl] at h5
    rcases h5.2 with ⟨h0, _⟩ | ⟨g6, c6, _, h0, _⟩
    · exact ⟨_, _, h0⟩
    · exact ⟨_, _, h0⟩
  obtain ⟨A, c, rfl⟩ := hv
  clear h1 h2 h3 h4 h5 h6
  go_enter Tryz.func16, Tryz.ntmps16
  go_wp2_with fail
  refine HN.out.mono ?_
  rintro e w1 ⟨rfl, rfl⟩
  go_wp2_with fail
  go_ret
  exact ⟨rfl, rfl⟩

theorem lz_loose {pg : Nat → Sp.Pg} {K : Foot} {w : World} {gd gl gp : Nat} (h : LzAt pg K w gd gl gp) : Calls Tryz.prog 16 #[ptr gd] w fun e w' => e = .returned (.int .i64 0) ∧ w' = w := by
  obtain ⟨L, ⟨_, p, D, F, dk, hd, hlk, _⟩, _⟩ := h
  exact disk_loose hd hlk.loose
theorem lz_pins {pg : Nat → Sp.Pg} {K : Foot} {w : World} {gd gl gp : Nat} (h : LzAt pg K w gd gl gp) {k : Nat} (hk : k < 4294967296) : Calls Tryz.prog 17 #[ptr gp, u32v k] w fun e w' => e = .returned (.int .i64 0) ∧ w' = w := by
  obtain ⟨L, ⟨_, p, D, F, dk, hd, hlk, hpl, _, _, rfl, _⟩, hz⟩ := h
  cases hf : p.find k with
  | none => exact pool_pins_out hpl hk hf
  | some it =>
    have := pool_pins_in hpl hk hf
    rw [show it.pins = 0 from hz (it.page.id, it.pins) (List.mem_map.2 ⟨it, (Sp.Pl.find_mem hf).1, rfl⟩)] at this
    exact this

set_option maxRecDepth 100000 in
set_option maxHeartbeats 4000000 in
/-- A pool of clean pages has no dirty one. -/
theorem pool_dirty {F : Foot} {w : World} {gp gd gl at_ base : Nat} {p : Sp.Pl} (h : IsPl F w gp gd gl at_ base p) (h12 : p.n ≤ 12) (hclean : ∀ it ∈ p.items, it.dirty = false) :
    Calls Tryz.prog 18 #[ptr gp] w fun e w' => e = .returned (.slice none 0 0) ∧ Below w.heap.size w w' := by
  have HPG := Lib.hid (pool_pages h h12)
  obtain ⟨R, fb, cb, mb, v, s, r, cs, h⟩ := h
  have HP := Lib.hid h
  have HCL := Lib.hid hclean
  obtain ⟨i9, hi9, hz9, hs9, hy9⟩ := info_parts fr_info
  clear h hclean
  go_enter Tryz.func18, Tryz.ntmps18
  go_wp2_with fail
  refine HPG.out.mono ?_
  rintro e w1 ⟨v1, rfl, hrow, hb1⟩
  have HP1 := Lib.hid (HP.out.keep hb1.size (fun b hb => hb1.block b (HP.out.lt b hb)))
  have hlen := HP.out.wf.len
  have hnn : p.items.length ≤ 12 := by omega
  obtain ⟨A1, c1, rfl⟩ : ∃ A c, v1 = .slice A p.items.length c := by
    rcases hrow.2 with ⟨h0, hz⟩ | ⟨g6, c6, _, h0, _⟩
    · exact ⟨none, 0, by rw [h0, hz]⟩
    · exact ⟨_, _, h0⟩
  have hsl : (Sp.sorted (p.items.map (·.page.id))).length = p.items.length := by rw [(Sp.sorted_spec _).1.length_eq, List.length_map]
  have HROW := Lib.hid (show ∀ k, k < p.items.length → ∃ b it, A1 = some ⟨b, 0, none⟩ ∧ b < w1.heap.size ∧ it ∈ p.items ∧ w1.cell? ⟨b, k, none⟩ = some (u32v it.page.id) from fun k hk => by
    rcases hrow.2 with ⟨_, hz⟩ | ⟨g6, c6, _, h0, _⟩
    · omega
    · injection h0 with h0 _ _
      subst h0
      have hk' : k < (Sp.sorted (p.items.map (·.page.id))).length := by rw [hsl]; exact hk
      obtain ⟨it, hit, e⟩ := List.mem_map.1 ((Sp.sorted_spec (p.items.map (·.page.id))).1.mem_iff.1 (List.getElem_mem hk'))
      refine ⟨g6, it, rfl, (hrow.lt g6 rfl).2, hit, ?_⟩
      have := hrow.cells (g := g6) rfl k _ (by rw [List.getElem?_map, List.getElem?_eq_getElem hk']; rfl)
      rw [add_lit] at this
      rw [this, e])
  clear HPG hrow hsl
  go_wp2_with fail
  go_loopw [2, 9] (fun v i wr => ∃ k : Nat, k ≤ p.items.length ∧ i = .int .i64 k ∧ v = .slice none 0 0 ∧ Below w1.heap.size w1 wr) (fun _ i _ => p.items.length - (intOf i).toNat)
  case atStart => exact ⟨0, by omega, rfl, rfl, Below.refl _ _⟩
  case round =>
    obtain ⟨k, hk, rfl, rfl, hbr⟩ := hrel
    by_cases hlt : k < p.items.length
    · obtain ⟨b, it, rfl, hbl, hit, hcell⟩ := HROW.out k hlt
      have hcell := lv_below hbr hbl hcell
      have hid : it.page.id < 4294967296 := (HP1.out.wf.pg it hit).1.2.2.1
      have hd := HCL.out it hit
      have hf := Sp.Pl.find_of HP1.out.wf hit
      have H2 := Lib.hid (HP1.out.keep hbr.size (fun b hb => hbr.block b (HP1.out.lt b hb)))
      obtain ⟨A, c, hA, hR, hc⟩ := H2.out.fr.item it hit
      have hlt9 := H2.out.wf.idx_lt hit
      have hload := fun (W : World) (hb : Blk W fb 102 cs) => load_frame hb rfl hc
      have HSS : ∀ W, IsPlAt F R W gp gd gl at_ base fb cb mb v s r cs p.free (p.items.map (·.page.id)) p → W.cell? ⟨gp, 4, none⟩ = some (.slice (some ⟨fb, 0, none⟩) p.n p.n) ∧ W.cell? ⟨gp, 6, none⟩ = some (.map (some mb)) ∧
          (Instr.lookup 97 (.map (some mb)) (u32v it.page.id) false).run Tryz.prog W = .ok (.int .i64 it.idx) W ∧ Blk W fb 102 cs := fun W h => by
        obtain ⟨c0, c1, c2, c3, c4, c5, c6, c7⟩ := h.cells
        exact ⟨c4, c6, h.look hid hf, h.fr.blk⟩
      have HSSH := Lib.hid HSS
      have HL := Lib.hid hload
      have HIT := Lib.hid hit
      have HHD := Lib.hid hd
      clear HSS hload hc hA hR hf hd hit
      go_wp2_with fail
      refine R_begin (fun W => W.cell? ⟨gp, 4, none⟩ = some (.slice (some ⟨fb, 0, none⟩) p.n p.n) ∧ W.cell? ⟨gp, 6, none⟩ = some (.map (some mb)) ∧
          (Instr.lookup 97 (.map (some mb)) (u32v it.page.id) false).run Tryz.prog W = .ok (.int .i64 it.idx) W ∧ Blk W fb 102 cs) (fun j => j == 13) rfl ?_
      have hS := Lib.hid (HSSH.out wr.drew (H2.out.keep (Nat.le_refl _) (fun _ _ => rfl)))
      refine R_tk 0 13 hS.out ?_
      refine R_tk 1 14 hS.out ?_
      refine R_tk 2 15 hS.out ?_
      refine R_tk 3 16 hS.out ?_
      refine R_tk 4 17 hS.out ?_
      refine R_tk 5 18 hS.out ?_
      refine R_tk 6 19 hS.out ?_
      refine R_tk 7 20 hS.out ?_
      refine R_tk 8 21 hS.out ?_
      refine R_tk 9 22 hS.out ?_
      refine R_tk 10 23 hS.out ?_
      simp only [List.setIfInBounds_toArray, List.set_cons_zero, List.set_cons_succ]
      refine R_take 11 24 (v := .agg (frCells it A c).toArray) rfl rfl (by rfl) (by kernel_rfl) (fun _ _ _ h => h) hS.out ?_ ?_
      · intro w hSw
        exact run_op_load _ _ _ rfl rfl (HL.out w hSw.2.2.2)
      simp only [List.setIfInBounds_toArray, List.set_cons_zero, List.set_cons_succ]
      have hk3 := H2.out.keep (w' := wr.drew.alloc (.cells zeroFr.toArray 102)) (by simp) (fun b hb => Below.heap_alloc wr.drew _ b (H2.out.lt b hb))
      refine R_run 12 5 (v := .pointer (some ⟨wr.drew.heap.size, 0, none⟩)) (w' := wr.drew.alloc (.cells zeroFr.toArray 102)) rfl rfl (by rfl) (by kernel_rfl) (run_op_alloc _ i9 _ _ rfl hi9 hz9 rfl) (fun _ => HSSH.out _ hk3) ?_
      simp only [List.setIfInBounds_toArray, List.set_cons_zero, List.set_cons_succ]
      have hB9 := Blk.new wr.drew 102 zeroFr.toArray
      have hb9 := hbr.alloc hbr.size (.cells zeroFr.toArray 102)
      have hl9 : w1.heap.size ≤ wr.drew.heap.size := hbr.size
      have hb9' : Below w1.heap.size w1 (wr.drew.alloc (.cells zeroFr.toArray 102)) := ⟨hb9.os, hb9.tape, hb9.output, hb9.size, hb9.block⟩
      obtain ⟨g9, hg9⟩ : ∃ g, g = wr.drew.heap.size := ⟨_, rfl⟩
      obtain ⟨w3, hw3⟩ : ∃ w3, w3 = wr.drew.alloc (.cells zeroFr.toArray 102) := ⟨_, rfl⟩
      rw [← hw3, ← hg9] at hB9 ⊢
      rw [← hw3] at hb9'
      rw [← hg9] at hl9
      clear hw3 hg9 hk3 hS HL HSSH hb9
      refine R_store 13 (n := .skip) (w' := w3.setRow g9 (frCells it A c).toArray) rfl rfl (by rfl) (by kernel_rfl) (run_op_store _ _ _ _ _ rfl rfl rfl (run_storeVar_part w3 g9 0 _ _ _ (frCells it A c).toArray hB9 fr_size (by show 0 + 9 ≤ 9; omega) (frCells_one it A c))) (.inl rfl) (fun h => nomatch h) ?_
      refine R_done (by kernel_rfl) ?_ _
      rename_i K9 hK9
      refine hK9 _ _ ?_
      replace hB9 := hB9.setRow (frCells it A c).toArray
      replace hb9' := below_setRow hb9' hl9 (frCells it A c).toArray
      obtain ⟨w4, hw4⟩ : ∃ w4, w4 = w3.setRow g9 (frCells it A c).toArray := ⟨_, rfl⟩
      rw [← hw4] at hB9 hb9' ⊢
      clear hw4
      have f7 := hB9.cell 7
      simp only [frCells, List.getElem?_toArray, List.getElem?_cons_succ, List.getElem?_cons_zero] at f7
      rw [HHD.out] at f7
      clear hB9 hcell
      go_wp2_with fail
      go_roundw
      case rel => exact ⟨k + 1, hlt, by go_num, rfl, hb9'⟩
      case measure => simp [intOf]; omega
    · obtain rfl : k = p.items.length := by omega
      go_wp2_with fail
      go_ret
      exact ⟨rfl, hb1.trans (hbr.mono hb1.size)⟩

theorem lz_dirty {pg : Nat → Sp.Pg} {K : Foot} {w : World} {gd gl gp : Nat} (h : LzAt pg K w gd gl gp) : Calls Tryz.prog 18 #[ptr gp] w fun e w' => e = .returned (.slice none 0 0) ∧ Below w.heap.size w w' := by
  obtain ⟨L, ⟨_, p, D, F, dk, hd, hlk, hpl, hn, hfr, _⟩, hz⟩ := h
  exact pool_dirty hpl (by omega) (fun it hit => (hfr it hit).1)
end Go.Proofs.YtphkggcdfkcidaaGreat

/- The walk of the law package pentimentolaw26: PastSees, where too much is asked. -/
namespace Go.Proofs.YtphkggcdfkcidaaGreat
open Go.RowKit Go.Conc

theorem StpsAt.keep2 {G : Foot} {w w' : World} {A : Option Addr} {l : List Sp.Stp} (h : StpsAt G w A l) (hb : Below w.heap.size w w') : StpsAt G w' A l := Reads.below h hb

set_option maxRecDepth 100000 in
set_option maxHeartbeats 4000000 in
/-- What is too much is answered by works. -/
theorem law_sees_out (key : Sp.Bs) (l : List Sp.Stp) (fr own next cap vcap : Nat) (A VA : Option Addr) (xs : List Nat) (hl : l.length ≤ 140737488355328) (hsl : ∀ x ∈ l, x.s.length ≤ 140737488355328) (hkl : key.length ≤ 140737488355328) (hxl : xs.length ≤ 140737488355328) (G : Foot) (w : World) (hR : StpsAt G w A l)
    (hout : ¬ (hzB l = false ∧ 1 ≤ l.length ∧ 1 ≤ key.length ∧ key.length ≤ 48 ∧ xs.length ≤ 60)) :
    Calls Tryz.prog 6 #[str key, .slice A l.length cap, .int .u8 fr, viewV own next VA xs.length vcap] w fun e w' => e = .returned (.bool true) ∧ Below w.heap.size w w' := by
  have HZ := Lib.hid fun (W : World) (h : StpsAt G W A l) => law26_heavy A cap l hl hsl G W h
  have HW := Lib.hid fun (W : World) => law26_works W
  have HR := Lib.hid hR
  clear hR hsl
  have hcs : hzB l = true ∨ (hzB l = false ∧ l.length = 0) ∨ (hzB l = false ∧ 1 ≤ l.length ∧ key.length = 0) ∨ (hzB l = false ∧ 1 ≤ l.length ∧ 1 ≤ key.length ∧ 48 < key.length) ∨ (hzB l = false ∧ 1 ≤ l.length ∧ 1 ≤ key.length ∧ key.length ≤ 48 ∧ 60 < xs.length) := by
    cases hz : hzB l with
    | true => exact .inl rfl
    | false =>
      by_cases h2 : l.length = 0
      · exact .inr (.inl ⟨rfl, h2⟩)
      · by_cases h3 : key.length = 0
        · exact .inr (.inr (.inl ⟨rfl, by omega, h3⟩))
        · by_cases h4 : 48 < key.length
          · exact .inr (.inr (.inr (.inl ⟨rfl, by omega, by omega, h4⟩)))
          · exact .inr (.inr (.inr (.inr ⟨rfl, by omega, by omega, by omega, by
              by_cases h5 : 60 < xs.length
              · exact h5
              · exact absurd ⟨hz, by omega, by omega, by omega, by omega⟩ hout⟩)))
  clear hout
  rcases hcs with hz | ⟨hz, h2⟩ | ⟨hz, h2, h3⟩ | ⟨hz, h2, h3, h4⟩ | ⟨hz, h2, h3, h4, h5⟩
  · rw [hz] at HZ
    clear hz
    go_enter Tryz.func6, Tryz.ntmps6
    go_wp2_with fail
    have hb0 := (Below.refl w.heap.size w).alloc (Nat.le_refl _) (.cells #[.int .u64 own, .int .u64 next, .slice VA xs.length vcap] 59)
    refine (HZ.out _ (HR.out.keep2 hb0)).mono ?_
    rintro e w1 ⟨rfl, rfl⟩
    go_wp2_with fail
    refine (HW.out _).mono ?_
    rintro e w2 ⟨rfl, hb2⟩
    go_wp2_with fail
    go_ret
    exact ⟨rfl, hb0.trans (hb2.mono hb0.size)⟩
  · rw [hz] at HZ
    have d2 : ((l.length : Int) == 0) = true := by rw [beq_iff_eq]; omega
    have d2b : decide ((l.length : Int) = 0) = true := by rw [decide_eq_true_eq]; omega
    clear hz h2
    go_enter Tryz.func6, Tryz.ntmps6
    go_wp2_with fail
    have hb0 := (Below.refl w.heap.size w).alloc (Nat.le_refl _) (.cells #[.int .u64 own, .int .u64 next, .slice VA xs.length vcap] 59)
    refine (HZ.out _ (HR.out.keep2 hb0)).mono ?_
    rintro e w1 ⟨rfl, rfl⟩
    go_wp2_with fail
    refine (HW.out _).mono ?_
    rintro e w2 ⟨rfl, hb2⟩
    go_wp2_with fail
    go_ret
    exact ⟨rfl, hb0.trans (hb2.mono hb0.size)⟩
  · rw [hz] at HZ
    have d2 : ((l.length : Int) == 0) = false := by rw [beq_eq_false_iff_ne]; omega
    have d2b : decide ((l.length : Int) = 0) = false := by rw [decide_eq_false_iff_not]; omega
    have d3 : decide ((key.length : Int) < 1) = true := by rw [decide_eq_true_eq]; omega
    clear hz h3
    go_enter Tryz.func6, Tryz.ntmps6
    go_wp2_with fail
    have hb0 := (Below.refl w.heap.size w).alloc (Nat.le_refl _) (.cells #[.int .u64 own, .int .u64 next, .slice VA xs.length vcap] 59)
    refine (HZ.out _ (HR.out.keep2 hb0)).mono ?_
    rintro e w1 ⟨rfl, rfl⟩
    go_wp2_with fail
    refine (HW.out _).mono ?_
    rintro e w2 ⟨rfl, hb2⟩
    go_wp2_with fail
    go_ret
    exact ⟨rfl, hb0.trans (hb2.mono hb0.size)⟩
  · rw [hz] at HZ
    have d2 : ((l.length : Int) == 0) = false := by rw [beq_eq_false_iff_ne]; omega
    have d2b : decide ((l.length : Int) = 0) = false := by rw [decide_eq_false_iff_not]; omega
    have d3 : decide ((key.length : Int) < 1) = false := by rw [decide_eq_false_iff_not]; omega
    have d4 : decide ((48 : Int) < (key.length : Int)) = true := by rw [decide_eq_true_eq]; omega
    clear hz
    go_enter Tryz.func6, Tryz.ntmps6
    go_wp2_with fail
    have hb0 := (Below.refl w.heap.size w).alloc (Nat.le_refl _) (.cells #[.int .u64 own, .int .u64 next, .slice VA xs.length vcap] 59)
    refine (HZ.out _ (HR.out.keep2 hb0)).mono ?_
    rintro e w1 ⟨rfl, rfl⟩
    go_wp2_with fail
    refine (HW.out _).mono ?_
    rintro e w2 ⟨rfl, hb2⟩
    go_wp2_with fail
    go_ret
    exact ⟨rfl, hb0.trans (hb2.mono hb0.size)⟩
  · rw [hz] at HZ
    have d2 : ((l.length : Int) == 0) = false := by rw [beq_eq_false_iff_ne]; omega
    have d2b : decide ((l.length : Int) = 0) = false := by rw [decide_eq_false_iff_not]; omega
    have d3 : decide ((key.length : Int) < 1) = false := by rw [decide_eq_false_iff_not]; omega
    have d4 : decide ((48 : Int) < (key.length : Int)) = false := by rw [decide_eq_false_iff_not]; omega
    have d5 : decide ((60 : Int) < (xs.length : Int)) = true := by rw [decide_eq_true_eq]; omega
    clear hz
    go_enter Tryz.func6, Tryz.ntmps6
    go_wp2_with fail
    have hb0 := (Below.refl w.heap.size w).alloc (Nat.le_refl _) (.cells #[.int .u64 own, .int .u64 next, .slice VA xs.length vcap] 59)
    refine (HZ.out _ (HR.out.keep2 hb0)).mono ?_
    rintro e w1 ⟨rfl, rfl⟩
    go_wp2_with fail
    refine (HW.out _).mono ?_
    rintro e w2 ⟨rfl, hb2⟩
    go_wp2_with fail
    go_ret
    exact ⟨rfl, hb0.trans (hb2.mono hb0.size)⟩
end Go.Proofs.YtphkggcdfkcidaaGreat

/- The walk of the law package pentimentolaw26: PastSees. -/
namespace Go.Proofs.YtphkggcdfkcidaaGreat
open Go.RowKit Go.Conc

/-- The law's play and rows, and its view. -/
structure LawV (K : Foot) (W : World) (gP gd gl gp gr gv n : Nat) (f : Nat → Sp.Rw) (gV own next : Nat) (VA : Option Addr) (xs : List Nat) (vcap : Nat) : Prop where
  i : LawIn K W gP gd gl gp gr gv n f
  v : Blk W gV 59 #[.int .u64 own, .int .u64 next, .slice VA xs.length vcap]
  ls : U64s K W VA xs
  kV : K gV
section
variable {K K' : Foot} {W W' : World} {gP gd gl gp gr gv n : Nat} {f : Nat → Sp.Rw} {gV own next : Nat} {VA : Option Addr} {xs : List Nat} {vcap : Nat}
theorem LawV.kept (h : LawV K W gP gd gl gp gr gv n f gV own next VA xs vcap) (hk : Kept K W W') : LawV K W' gP gd gl gp gr gv n f gV own next VA xs vcap :=
  ⟨h.i.kept hk, h.v.kept hk h.kV, h.ls.keep hk.size (fun b hb => hk.block b hb), h.kV⟩
theorem LawV.mono (h : LawV K W gP gd gl gp gr gv n f gV own next VA xs vcap) (hk : ∀ b, K b → K' b) : LawV K' W gP gd gl gp gr gv n f gV own next VA xs vcap := ⟨h.i.mono hk, h.v, h.ls.mono hk, hk _ h.kV⟩
theorem LawV.s (h : LawV K W gP gd gl gp gr gv n f gV own next VA xs vcap) {i : Nat} (hi : i < n) : W.cell? ⟨gP, 2, none⟩ = some (ptr gp) ∧
    W.cell? ⟨gv, i * 7, none⟩ = some (str (f i).key) ∧ W.cell? ⟨gv, i * 7 + 1, none⟩ = some (.bool (f i).mark) ∧ W.cell? ⟨gv, i * 7 + 2, none⟩ = some (.int .u64 (f i).tx) ∧ W.cell? ⟨gv, i * 7 + 3, none⟩ = some (.int .u32 (f i).page) ∧
    W.cell? ⟨gv, i * 7 + 4, none⟩ = some (.int .u16 (f i).slot) ∧ W.cell? ⟨gv, i * 7 + 5, none⟩ = some (str (f i).value) ∧ W.cell? ⟨gv, i * 7 + 6, none⟩ = some (.int .i64 (f i).pad) ∧
    W.cell? ⟨gV, 0, none⟩ = some (.int .u64 own) ∧ W.cell? ⟨gV, 1, none⟩ = some (.int .u64 next) ∧ W.cell? ⟨gV, 2, none⟩ = some (.slice VA xs.length vcap) := by
  obtain ⟨a0, a1, a2, a3, a4, a5, a6, a7⟩ := h.i.s hi
  exact ⟨a0, a1, a2, a3, a4, a5, a6, a7, h.v.cell 0, h.v.cell 1, h.v.cell 2⟩
end
/-- Behind the search for what is to be seen. -/
def SesMid (sees : Nat → Bool) (row : Nat → Sp.Rw) (k : Nat) (W0 : World) (g13 : Nat) (v : Value) (W : World) : Prop :=
  v = .bool (Sp.seeAt row sees k).isSome ∧ Blk W g13 37 (Sp.orZ (Sp.seeAt row sees k)) ∧ Turns (only g13) (only g13) W0 W

set_option maxRecDepth 100000 in
set_option maxHeartbeats 8000000 in
theorem law_sees_in (key : Sp.Bs) (hkey : 1 ≤ key.length ∧ key.length ≤ 48) (l : List Sp.Stp) (h1 : 1 ≤ l.length) (hz : hzB l = false) (htx : ∀ x ∈ l, x.tx < 256) (fr own next cap vcap : Nat) (hfr : fr < 256) (A VA : Option Addr) (xs : List Nat) (hx : xs.length ≤ 60) (w : World)
    (hR : StpsAt (fun b => b < w.heap.size) w A l) (hV : U64s (fun b => b < w.heap.size) w VA xs) :
    Calls Tryz.prog 6 #[str key, .slice A l.length cap, .int .u8 fr, viewV own next VA xs.length vcap] w fun e w' => e = .returned (.bool true) ∧ Below w.heap.size w w' := by
  obtain ⟨h10, hs⟩ := hz_small hz
  have hb0 := (Below.refl w.heap.size w).alloc (Nat.le_refl _) (.cells #[.int .u64 own, .int .u64 next, .slice VA xs.length vcap] 59)
  have hR1 := StpsAt.keep2 hR hb0
  have HZ := Lib.hid (law26_heavy A cap l (by omega) (fun x hx => by have := hs x hx; omega) _ _ hR1)
  rw [hz] at HZ
  have HST := Lib.hid (law_story key hkey l h1 h10 htx hs _ A cap _ hR1)
  have HW := Lib.hid fun (W : World) => law26_works W
  have HKEY := Lib.hid hkey
  have HV0 := Lib.hid (Reads.below hV hb0)
  have hVb := Blk.new w 59 #[.int .u64 own, .int .u64 next, .slice VA xs.length vcap]
  have d2 : ((l.length : Int) == 0) = false := by rw [beq_eq_false_iff_ne]; omega
  have d2b : decide ((l.length : Int) = 0) = false := by rw [decide_eq_false_iff_not]; omega
  have d3 : decide ((key.length : Int) < 1) = false := by rw [decide_eq_false_iff_not]; omega
  have d4 : decide ((48 : Int) < (key.length : Int)) = false := by rw [decide_eq_false_iff_not]; omega
  have d5 : decide ((60 : Int) < (xs.length : Int)) = false := by rw [decide_eq_false_iff_not]; omega
  clear hR hV hR1 hs htx hz hkey
  go_enter Tryz.func6, Tryz.ntmps6
  go_wp2_with fail
  generalize hw1 : World.alloc w _ = w1 at hb0 HZ HST HV0 hVb ⊢
  refine HZ.out.mono ?_
  rintro e w1' ⟨rfl, hw1'⟩
  subst w1'
  have v2c := hVb.cell 2
  simp only [List.getElem?_toArray, List.getElem?_cons_succ, List.getElem?_cons_zero] at v2c
  clear hw1
  go_wp2_with fail
  refine HST.out.mono ?_
  rintro e w2 ⟨vr, bp, cp, rfl, hsto, hb2⟩
  obtain ⟨hpgs, hbp⟩ := hsto.pgs
  obtain ⟨gv, cv, rfl, hgv, hrows⟩ := hsto.rows h1
  obtain ⟨pg, hpgE⟩ : ∃ pg, pg = Sp.stPg key l l.length := ⟨_, rfl⟩
  have hok : PgOk pg := fun q q1 q6 => by rw [hpgE]; exact Sp.stPg_ok HKEY.out h10 (Nat.le_refl _) q1 q6
  rw [← hpgE] at hpgs
  have HLD := Lib.hid (law_laid pg hok bp 0 cp w2 hbp hpgs)
  have HPE := Lib.hid hpgE
  have hbw2 : Below w.heap.size w w2 := hb0.trans (hb2.mono hb0.size)
  have hVb2 := hVb.below hb2 hVb.lt
  have hV2 := HV0.out.below hb2
  clear HST HZ hsto hb2 hpgs hpgE hok HV0 hVb v2c
  go_wp2_with fail
  refine HLD.out.mono ?_
  rintro e w3 ⟨gP, gr, gd, gl, gp, rfl, hPl, hb3, hL⟩
  have hgVl := hVb2.lt
  have hszw := hbw2.size
  have HBK := Lib.hid fun (i : Nat) (hi : i < l.length) => sto_back (key := key) (l := l) HKEY.out h10 (pg := pg) hi (by rw [HPE.out]) gd gl gp
  have HI := Lib.hid (show LawV (fun b => b < w2.heap.size ∨ b = gP) w3 gP gd gl gp gr gv l.length (Sp.stRow key l) w.heap.size own next VA xs vcap from
    ⟨⟨hPl, fun i hi j hj => (World.cell?_of_block (a := ⟨gv, i * 7 + j, none⟩) (hb3.block gv hgv)).trans (hrows i hi j hj), .inr rfl, .inl hgv⟩, hVb2.below hb3 hgVl, (Reads.below hV2 hb3).mono (fun b hb => .inl (Nat.lt_of_lt_of_le hb hszw)), .inl hgVl⟩)
  have HP := Lib.hid (show LzAt pg (fun b => b < w2.heap.size ∨ b = gP) w3 gd gl gp from ⟨[], hL, by simp⟩)
  have hbw3 := hbw2.trans (hb3.mono hbw2.size)
  have HK0 := Lib.hid (show ∀ b, b < w.heap.size → (fun b => b < w2.heap.size ∨ b = gP) b from fun b hb => .inl (Nat.lt_of_lt_of_le hb hbw2.size))
  clear HLD hPl hb3 hL hrows hbw2 HPE hbp hgv hVb2 hV2 hgVl
  have wr8 : IntKind.i64.wrap (fr : Int) = fr := by rw [IntKind.wrap_i64]; omega
  go_upto_region 8 with fail
  obtain ⟨k, hk⟩ : ∃ k, k = fr % l.length := ⟨_, rfl⟩
  have hkl : k < l.length := by rw [hk]; exact Nat.mod_lt _ (by omega)
  rw [show (fr : Int) % (l.length : Int) = (k : Int) by rw [hk]; simp]
  clear hk wr8 d2 d2b d3 d4 d5
  obtain ⟨gV, hgV⟩ : ∃ g, g = w.heap.size := ⟨_, rfl⟩
  rw [← hgV] at HI
  have hsz3 := hbw3.size
  rw [show (Value.pointer (some ⟨w.heap.size, 0, none⟩)) = ptr gV by rw [hgV]]
  clear hgV
  have hb4 := (Below.refl w3.heap.size w3).alloc (Nat.le_refl _) (.cells rwZ 37)
  have hPl3 := HP.out.lt
  have hk4 := Kept.of_below hb4 hPl3
  have H13 := Blk.new w3 37 rwZ
  have hp4 : LzAt pg (fun b => (fun b => b < w2.heap.size ∨ b = gP) b ∨ b = w3.heap.size) (w3.alloc (.cells rwZ 37)) gd gl gp := HP.out.more hb4 (fun b hb => by rcases hb with hb | rfl; exact .inl hb; exact .inr ⟨Nat.le_refl _, by simp⟩)
  have hi4 := HI.out.kept hk4
  have hbw4 := hbw3.alloc hsz3 (.cells rwZ 37)
  go_upto_region 9 with fail
  generalize hw4 : World.alloc w3 _ = w4 at H13 hp4 hi4 hbw4 ⊢
  obtain ⟨g13, hg13⟩ : ∃ g, g = w3.heap.size := ⟨_, rfl⟩
  rw [← hg13] at H13 hp4 ⊢
  have hB13 : w.heap.size ≤ g13 := by omega
  have hn13 : ¬ (fun b => b < w2.heap.size ∨ b = gP) g13 := fun h => by have := hPl3 g13 h; omega
  have HK1 : Hid (∀ b, b < w.heap.size → (fun b => (fun b => b < w2.heap.size ∨ b = gP) b ∨ b = g13) b) := Lib.hid (fun b hb => .inl (HK0.out b hb))
  replace HI := Lib.hid hi4
  replace HP := Lib.hid hp4
  have G13 := Lib.hid H13
  clear hw4 hg13 hb4 hk4 H13 hp4 hi4 hbw3 hsz3 hPl3 HK0
  go_upto_block 0 with fail
  go_cut [14] (fun v wx => SesMid (Sp.sees own next xs) (Sp.stRow key l) k w4 g13 v wx)
  case first =>
    go_wp2_with fail
    go_loopw [14, 15] (fun b v wr => ∃ j : Nat, j ≤ k + 1 ∧ b = .bool false ∧ v = .int .i64 ((j : Int) - 1) ∧ (∀ m, j ≤ m → m ≤ k → Sp.sees own next xs (Sp.stRow key l m).tx = false) ∧ Below w4.heap.size w4 wr) (fun _ v _ => (intOf v + 1).toNat)
    case atStart => exact ⟨k + 1, Nat.le_refl _, rfl, by go_num, fun m h1 h2 => by omega, Below.refl _ _⟩
    case round =>
      obtain ⟨j, hj, rfl, rfl, hun, hbr⟩ := hrel
      have HUN := Lib.hid hun
      clear hun
      rcases Nat.eq_zero_or_pos j with h0 | h0
      · subst h0
        have G13r := Lib.hid (G13.out.below hbr G13.out.lt)
        go_wp2_with fail
        go_meet
        case rel =>
          have hn := Sp.seeAt_none (Sp.stRow key l) (Sp.sees own next xs) k (fun m h1 h2 => HUN.out m h1 h2)
          exact ⟨by rw [hn]; rfl, by rw [hn]; exact G13r.out, Turns.of_below hbr _⟩
      · obtain ⟨i, rfl⟩ : ∃ i, j = i + 1 := ⟨j - 1, by omega⟩
        have hik : i ≤ k := by omega
        rw [show ((i + 1 : Nat) : Int) - 1 = (i : Int) by omega]
        have hir := HI.out.kept ((Kept.of_below hbr HP.out.lt).mono (fun b hb => .inl hb))
        have hil : i < l.length := by omega
        have HRS := Lib.hid (ref24_sees own next VA vcap xs (Sp.stRow key l i).tx (by omega) _ wr.drew hir.ls)
        have hS := Lib.hid (show (wr.drew.cell? ⟨gV, 0, none⟩ = some (.int .u64 own) ∧ wr.drew.cell? ⟨gV, 1, none⟩ = some (.int .u64 next) ∧ wr.drew.cell? ⟨gV, 2, none⟩ = some (.slice VA xs.length vcap) ∧ wr.drew.cell? ⟨gv, i * 7 + 2, none⟩ = some (.int .u64 (Sp.stRow key l i).tx)) from ⟨hir.v.cell 0, hir.v.cell 1, hir.v.cell 2, hir.i.rows i hil 2 (by omega)⟩)
        go_wp2_with fail
        refine R_begin (fun W => (W.cell? ⟨gV, 0, none⟩ = some (.int .u64 own) ∧ W.cell? ⟨gV, 1, none⟩ = some (.int .u64 next) ∧ W.cell? ⟨gV, 2, none⟩ = some (.slice VA xs.length vcap) ∧ W.cell? ⟨gv, i * 7 + 2, none⟩ = some (.int .u64 (Sp.stRow key l i).tx))) (fun _ => false) rfl ?_
        refine R_tk 0 65 hS.out ?_
        refine R_tk 1 66 hS.out ?_
        refine R_tk 2 67 hS.out ?_
        refine R_tk 3 68 hS.out ?_
        refine R_tk 4 69 hS.out ?_
        refine R_tk 5 70 hS.out ?_
        simp only [List.setIfInBounds_toArray, List.set_cons_zero, List.set_cons_succ]
        refine R_call 6 71 (w' := wr.drew) rfl rfl (by rfl) (by kernel_rfl) ?_ HRS.out ?_
        · go_simp
        rintro e v1 ⟨rfl, hbv1⟩
        have hb1 : Below w4.heap.size w4 v1 := hbr.trans ((show Below wr.heap.size wr v1 from ⟨hbv1.os, hbv1.tape, hbv1.output, hbv1.size, hbv1.block⟩).mono hbr.size)
        have hi1 := HI.out.kept ((Kept.of_below hb1 HP.out.lt).mono (fun b hb => .inl hb))
        refine ⟨_, rfl, fun _ => ⟨hi1.v.cell 0, hi1.v.cell 1, hi1.v.cell 2, hi1.i.rows i hil 2 (by omega)⟩, ?_⟩
        simp only [List.setIfInBounds_toArray, List.set_cons_zero, List.set_cons_succ]
        refine R_done (by kernel_rfl) ?_ _
        rename_i K9 hK9
        refine hK9 _ _ ?_
        clear hK9 hS HRS
        have G13r := Lib.hid (G13.out.below hb1 G13.out.lt)
        obtain ⟨s0, s1, s2, s3, s4, s5, s6, s7, _, _, _⟩ := hi1.s hil
        cases hs : Sp.sees own next xs (Sp.stRow key l i).tx with
        | false =>
          have HS := Lib.hid hs
          clear hs hbv1 hi1 hir
          go_wp2_with fail
          go_roundw
          case rel => exact ⟨i, by omega, rfl, by go_num, fun m h1 h2 => by
            by_cases e : m = i
            · rw [e]; exact HS.out
            · exact HUN.out m (by omega) h2, hb1⟩
          case measure => simp [intOf]
        | true =>
          have hres : Sp.seeAt (Sp.stRow key l) (Sp.sees own next xs) k = if (Sp.stRow key l i).mark then none else some (Sp.stRow key l i) := by
            rw [Sp.seeAt_skip _ _ i k hik (fun m h1 h2 => HUN.out m h1 h2), Sp.seeAt_at _ _ i hs]
          have HRES := Lib.hid hres
          clear hs hbv1 hi1 hir hres
          cases hm : (Sp.stRow key l i).mark with
          | true =>
            rw [hm] at s2
            go_wp2_with fail
            go_meet
            case rel => exact ⟨by rw [HRES.out, hm]; rfl, by rw [HRES.out, hm]; exact G13r.out, Turns.of_below hb1 _⟩
          | false =>
            rw [hm] at s2
            have hcs : (rwCs (Sp.stRow key l i)).toArray = #[str (Sp.stRow key l i).key, .bool false, .int .u64 (Sp.stRow key l i).tx, .int .u32 (Sp.stRow key l i).page, .int .u16 (Sp.stRow key l i).slot, str (Sp.stRow key l i).value, .int .i64 (Sp.stRow key l i).pad] := by
              show #[str (Sp.stRow key l i).key, .bool (Sp.stRow key l i).mark, .int .u64 (Sp.stRow key l i).tx, .int .u32 (Sp.stRow key l i).page, .int .u16 (Sp.stRow key l i).slot, str (Sp.stRow key l i).value, .int .i64 (Sp.stRow key l i).pad] = _; rw [hm]
            have HCS := Lib.hid hcs
            clear hcs
            go_wp2_with (refine wpList_store_part rfl _ _ _ rfl g13 0 #[str (Sp.stRow key l i).key, .bool false, .int .u64 (Sp.stRow key l i).tx, .int .u32 (Sp.stRow key l i).page, .int .u16 (Sp.stRow key l i).slot, str (Sp.stRow key l i).value, .int .i64 (Sp.stRow key l i).pad] rfl rfl _ _ G13r.out row_size (by show 0 + 7 ≤ 7; omega) (row_one _ _ _ _ _ _ _) ?_)
            go_meet
            case rel => exact ⟨by rw [HRES.out, hm]; rfl, by rw [HRES.out, hm]; show Blk _ g13 37 (rwCs (Sp.stRow key l i)).toArray; rw [HCS.out]; exact G13r.out.setRow _, (Turns.of_below hb1 (only g13)).setRow (.inl rfl) _⟩
  case rest =>
  obtain ⟨rfl, hG5, hT5⟩ := hcut
  obtain ⟨w5, rfl⟩ : ∃ x : World, x = wc := ⟨_, rfl⟩
  have hlt4 := HP.out.lt
  have hk5 : Kept (fun b => b < w2.heap.size ∨ b = gP) w4 w5 := Kept.of_turns hT5 (fun b hb => ⟨hlt4 b (.inl hb), fun e => hn13 (e ▸ hb)⟩)
  have hi5 := (HI.out.kept hk5).mono (K' := (fun b => (fun b => b < w2.heap.size ∨ b = gP) b ∨ b = g13)) (fun b hb => .inl hb)
  have hp5 := HP.out.turns (hT5.wider (F := (fun b => (fun b => b < w2.heap.size ∨ b = gP) b ∨ b = g13)) (F' := (fun b => (fun b => b < w2.heap.size ∨ b = gP) b ∨ b = g13)) (fun b hb => .inr hb) (fun b hb => .inl hb))
  have hbw5 : Below w.heap.size w w5 := hbw4.trans (hT5.below hbw4.size (fun b hb => by rw [hb]; exact hB13))
  have HSE := Lib.hid fun (K : Foot) (W : World) (hp : LzAt pg K W gd gl gp) (hv : U64s K W VA xs) => past_see hp (Sp.stRow key l) k (by omega) own next VA vcap xs (by omega) hv (fun i hi _ => HBK.out i (by omega))
  replace HI := Lib.hid hi5
  replace HP := Lib.hid hp5
  replace G13 := Lib.hid hG5
  clear hbw4 hi5 hp5 hG5 hT5 hk5 hlt4
  go_upto_region 16 with fail
  go_cut [16, 17, 18] (fun va vb ve wx => CallAt pg (fun b => (fun b => b < w2.heap.size ∨ b = gP) b ∨ b = g13) w5 gd gl gp (Sp.orZ (Sp.seeAt (Sp.stRow key l) (Sp.sees own next xs) k)) va wx ∧ vb = .bool (Sp.seeAt (Sp.stRow key l) (Sp.sees own next xs) k).isSome ∧ ve = .int .i64 0)
  case first =>
    go_wp2_with fail
    have hS0 := Lib.hid (LawV.s HI.out hkl)
    refine R_begin (fun (W : World) => W.cell? ⟨gP, 2, none⟩ = some (ptr gp) ∧ W.cell? ⟨gv, k * 7, none⟩ = some (str (Sp.stRow key l k).key) ∧ W.cell? ⟨gv, k * 7 + 1, none⟩ = some (.bool (Sp.stRow key l k).mark) ∧ W.cell? ⟨gv, k * 7 + 2, none⟩ = some (.int .u64 (Sp.stRow key l k).tx) ∧ W.cell? ⟨gv, k * 7 + 3, none⟩ = some (.int .u32 (Sp.stRow key l k).page) ∧ W.cell? ⟨gv, k * 7 + 4, none⟩ = some (.int .u16 (Sp.stRow key l k).slot) ∧ W.cell? ⟨gv, k * 7 + 5, none⟩ = some (str (Sp.stRow key l k).value) ∧ W.cell? ⟨gv, k * 7 + 6, none⟩ = some (.int .i64 (Sp.stRow key l k).pad) ∧ W.cell? ⟨gV, 0, none⟩ = some (.int .u64 own) ∧ W.cell? ⟨gV, 1, none⟩ = some (.int .u64 next) ∧ W.cell? ⟨gV, 2, none⟩ = some (.slice VA xs.length vcap)) (fun _ => false) rfl ?_
    refine R_tk 0 83 hS0.out ?_
    refine R_tk 1 84 hS0.out ?_
    refine R_tk 2 85 hS0.out ?_
    refine R_tk 3 86 hS0.out ?_
    refine R_tk 4 87 hS0.out ?_
    refine R_tk 5 88 hS0.out ?_
    refine R_tk 6 89 hS0.out ?_
    refine R_tk 7 90 hS0.out ?_
    refine R_tk 8 91 hS0.out ?_
    simp only [List.setIfInBounds_toArray, List.set_cons_zero, List.set_cons_succ]
    refine R_all (rs := [9, 14]) (by kernel_rfl) (by simp) (fun i hi => ?_)
    simp only [List.mem_cons, List.not_mem_nil, or_false] at hi
    rcases hi with rfl | rfl
    · skip
      have hc := HSE.out (fun b => (fun b => b < w2.heap.size ∨ b = gP) b ∨ b = g13) _ HP.out.drew (HI.out.ls)
      refine op_call 92 (w' := w5.drew) rfl rfl (by rfl) ?_ hc ?_
      · go_simp
      rintro e v1 ⟨rfl, hk1, hp1⟩
      have hi1 := HI.out.kept (Kept.undrew hk1)
      have hS1 := Lib.hid (LawV.s hi1 hkl)
      refine ⟨_, rfl, fun _ => hS1.out, ?_⟩
      simp only [List.setIfInBounds_toArray, List.set_cons_zero, List.set_cons_succ]
      clear hc
      refine R_tk 10 82 hS1.out ?_
      refine R_tk 11 93 hS1.out ?_
      refine R_tk 12 94 hS1.out ?_
      refine R_tk 13 95 hS1.out ?_
      simp only [List.setIfInBounds_toArray, List.set_cons_zero, List.set_cons_succ]
      have hi2 := hi1.kept (Kept.of_below ((Below.refl v1.heap.size v1).alloc (Nat.le_refl _) (.cells rwZ 37)) hp1.lt)
      have hS2 := Lib.hid (LawV.s hi2 hkl)
      refine R_run 14 16 (v := ptr v1.heap.size) (w' := v1.alloc (.cells rwZ 37)) rfl rfl (by rfl) (by kernel_rfl) ?_ (fun _ => hS2.out) ?_
      · first | (go_simp; done) | (go_simp; rfl)
      simp only [List.setIfInBounds_toArray, List.set_cons_zero, List.set_cons_succ]
      have hn := Blk.new v1 37 rwZ
      have hca := callAt_1 (Kept.undrew hk1) hp1 (Sp.orZ (Sp.seeAt (Sp.stRow key l) (Sp.sees own next xs) k))
      have hS3 := Lib.hid (show (fun (W : World) => W.cell? ⟨gP, 2, none⟩ = some (ptr gp) ∧ W.cell? ⟨gv, k * 7, none⟩ = some (str (Sp.stRow key l k).key) ∧ W.cell? ⟨gv, k * 7 + 1, none⟩ = some (.bool (Sp.stRow key l k).mark) ∧ W.cell? ⟨gv, k * 7 + 2, none⟩ = some (.int .u64 (Sp.stRow key l k).tx) ∧ W.cell? ⟨gv, k * 7 + 3, none⟩ = some (.int .u32 (Sp.stRow key l k).page) ∧ W.cell? ⟨gv, k * 7 + 4, none⟩ = some (.int .u16 (Sp.stRow key l k).slot) ∧ W.cell? ⟨gv, k * 7 + 5, none⟩ = some (str (Sp.stRow key l k).value) ∧ W.cell? ⟨gv, k * 7 + 6, none⟩ = some (.int .i64 (Sp.stRow key l k).pad) ∧ W.cell? ⟨gV, 0, none⟩ = some (.int .u64 own) ∧ W.cell? ⟨gV, 1, none⟩ = some (.int .u64 next) ∧ W.cell? ⟨gV, 2, none⟩ = some (.slice VA xs.length vcap)) _ from LawV.s (HI.out.kept hca.choose_spec.2.2.2.1) hkl)
      (try simp only [List.setIfInBounds_toArray, List.set_cons_zero, List.set_cons_succ])
      refine R_store 15 (n := .skip) (w' := (v1.alloc (.cells rwZ 37)).setRow v1.heap.size (Sp.orZ (Sp.seeAt (Sp.stRow key l) (Sp.sees own next xs) k))) rfl rfl (by rfl) (by kernel_rfl) (run_op_store _ _ _ _ _ rfl rfl rfl (row_store7 hn (orZ_size _) (orZ_one _))) (.inl rfl) (fun _ => hS3.out) ?_
      refine R_tk 16 17 hS3.out ?_
      refine R_tk 17 18 hS3.out ?_
      simp only [List.setIfInBounds_toArray, List.set_cons_zero, List.set_cons_succ]
      refine R_done (by kernel_rfl) ?_ _
      rename_i K9 hK9
      refine hK9 _ _ ?_
      clear hK9
      go_meet
      case rel => exact ⟨hca, rfl, rfl⟩
    · skip
      obtain ⟨hp1, hk1, hn1⟩ := callAt_0 HP.out
      have hi1 := HI.out.kept hk1
      have hS1 := Lib.hid (LawV.s hi1 hkl)
      refine op_run 16 (v := ptr w5.heap.size) (w' := w5.drew.alloc (.cells rwZ 37)) rfl rfl (by rfl) ?_ ⟨fun _ => hS1.out, ?_⟩
      · first | (go_simp; done) | (go_simp; rfl)
      simp only [List.setIfInBounds_toArray, List.set_cons_zero, List.set_cons_succ]
      have hc := HSE.out (fun b => (fun b => (fun b => b < w2.heap.size ∨ b = gP) b ∨ b = g13) b ∨ b = w5.heap.size) _ hp1 (((HI.out.ls).keep hk1.size (fun b hb => hk1.block b hb)).mono (fun b hb => .inl hb))
      refine R_call 9 92 (w' := w5.drew.alloc (.cells rwZ 37)) rfl rfl (by rfl) (by kernel_rfl) ?_ hc ?_
      · go_simp
      rintro e v2 ⟨rfl, hk2, hp2⟩
      have hi2 := hi1.kept (hk2.mono (fun b hb => .inl hb))
      have hS2 := Lib.hid (LawV.s hi2 hkl)
      refine ⟨_, rfl, fun _ => hS2.out, ?_⟩
      simp only [List.setIfInBounds_toArray, List.set_cons_zero, List.set_cons_succ]
      clear hc
      refine R_tk 10 82 hS2.out ?_
      refine R_tk 11 93 hS2.out ?_
      refine R_tk 12 94 hS2.out ?_
      refine R_tk 13 95 hS2.out ?_
      have hca := callAt_2 HP.out hk2 hp2 (Sp.orZ (Sp.seeAt (Sp.stRow key l) (Sp.sees own next xs) k))
      have hS3 := Lib.hid (show (fun (W : World) => W.cell? ⟨gP, 2, none⟩ = some (ptr gp) ∧ W.cell? ⟨gv, k * 7, none⟩ = some (str (Sp.stRow key l k).key) ∧ W.cell? ⟨gv, k * 7 + 1, none⟩ = some (.bool (Sp.stRow key l k).mark) ∧ W.cell? ⟨gv, k * 7 + 2, none⟩ = some (.int .u64 (Sp.stRow key l k).tx) ∧ W.cell? ⟨gv, k * 7 + 3, none⟩ = some (.int .u32 (Sp.stRow key l k).page) ∧ W.cell? ⟨gv, k * 7 + 4, none⟩ = some (.int .u16 (Sp.stRow key l k).slot) ∧ W.cell? ⟨gv, k * 7 + 5, none⟩ = some (str (Sp.stRow key l k).value) ∧ W.cell? ⟨gv, k * 7 + 6, none⟩ = some (.int .i64 (Sp.stRow key l k).pad) ∧ W.cell? ⟨gV, 0, none⟩ = some (.int .u64 own) ∧ W.cell? ⟨gV, 1, none⟩ = some (.int .u64 next) ∧ W.cell? ⟨gV, 2, none⟩ = some (.slice VA xs.length vcap)) _ from LawV.s (HI.out.kept hca.choose_spec.2.2.2.1) hkl)
      (try simp only [List.setIfInBounds_toArray, List.set_cons_zero, List.set_cons_succ])
      refine R_store 15 (n := .skip) (w' := v2.setRow w5.heap.size (Sp.orZ (Sp.seeAt (Sp.stRow key l) (Sp.sees own next xs) k))) rfl rfl (by rfl) (by kernel_rfl) (run_op_store _ _ _ _ _ rfl rfl rfl (row_store7 (hn1.kept hk2 (.inr rfl)) (orZ_size _) (orZ_one _))) (.inl rfl) (fun _ => hS3.out) ?_
      refine R_tk 16 17 hS3.out ?_
      refine R_tk 17 18 hS3.out ?_
      simp only [List.setIfInBounds_toArray, List.set_cons_zero, List.set_cons_succ]
      refine R_done (by kernel_rfl) ?_ _
      rename_i K9 hK9
      refine hK9 _ _ ?_
      clear hK9
      go_meet
      case rel => exact ⟨hca, rfl, rfl⟩
  case rest =>
  obtain ⟨⟨g16, rfl, h16, hp6, hk6, hge6⟩, rfl, rfl⟩ := hcut
  obtain ⟨w6, rfl⟩ : ∃ x : World, x = wc := ⟨_, rfl⟩
  replace G13 := Lib.hid (G13.out.kept hk6 (.inr rfl))
  have hi6 := HI.out.kept hk6
  have hbw6 := hbw5.trans (hk6.below (fun b hb => HK1.out b hb))
  have G16 := Lib.hid h16
  replace HI := Lib.hid (hi6.mono (K' := fun b => (fun b => (fun b => b < w2.heap.size ∨ b = gP) b ∨ b = g13) b ∨ b = g16) (fun b hb => .inl hb))
  replace HP := Lib.hid hp6
  clear h16 hp6 hk6 hge6 hi6 hbw5 HSE
  have p0 := HI.out.i.play.cell 0
  simp only [List.getElem?_toArray, List.getElem?_cons_zero] at p0
  have HLO := Lib.hid (lz_loose HP.out)
  obtain ⟨o, ho⟩ : ∃ o, o = Sp.seeAt (Sp.stRow key l) (Sp.sees own next xs) k := ⟨_, rfl⟩
  rw [← ho] at G13 G16 ⊢
  clear ho
  go_upto_region 17 with fail
  go_cut [115] (fun v wx => v = .bool false ∧ wx = w6)
  case first =>
    cases o with
    | none =>
      have a0 := (show Blk w6 g13 37 rwZ from G13.out).cell 0
      have a1 := (show Blk w6 g13 37 rwZ from G13.out).cell 1
      have a2 := (show Blk w6 g13 37 rwZ from G13.out).cell 2
      have a3 := (show Blk w6 g13 37 rwZ from G13.out).cell 3
      have a4 := (show Blk w6 g13 37 rwZ from G13.out).cell 4
      have a5 := (show Blk w6 g13 37 rwZ from G13.out).cell 5
      have a6 := (show Blk w6 g13 37 rwZ from G13.out).cell 6
      have b0 := (show Blk w6 g16 37 rwZ from G16.out).cell 0
      have b1 := (show Blk w6 g16 37 rwZ from G16.out).cell 1
      have b2 := (show Blk w6 g16 37 rwZ from G16.out).cell 2
      have b3 := (show Blk w6 g16 37 rwZ from G16.out).cell 3
      have b4 := (show Blk w6 g16 37 rwZ from G16.out).cell 4
      have b5 := (show Blk w6 g16 37 rwZ from G16.out).cell 5
      have b6 := (show Blk w6 g16 37 rwZ from G16.out).cell 6
      simp only [List.getElem?_toArray, List.getElem?_cons_succ, List.getElem?_cons_zero] at a0 a1 a2 a3 a4 a5 a6 b0 b1 b2 b3 b4 b5 b6
      go_wp2_with fail
      refine HLO.out.mono ?_
      rintro e w7 ⟨rfl, hw7⟩
      subst w7
      go_wp2_with fail
      go_meet
      case rel => exact ⟨rfl, rfl⟩
    | some r =>
      obtain ⟨a0, a1, a2, a3, a4, a5, a6⟩ := vrow_cells (r := r) G13.out
      obtain ⟨b0, b1, b2, b3, b4, b5, b6⟩ := vrow_cells (r := r) G16.out
      go_wp2_with fail
      refine HLO.out.mono ?_
      rintro e w7 ⟨rfl, hw7⟩
      subst w7
      go_wp2_with fail
      go_meet
      case rel => exact ⟨rfl, rfl⟩
  case rest =>
  obtain ⟨rfl, rfl⟩ := hcut
  clear p0 HLO G13 G16
  have p2 := HI.out.i.play.cell 2
  simp only [List.getElem?_toArray, List.getElem?_cons_zero, List.getElem?_cons_succ] at p2
  go_wp2_with fail
  go_loopw [19] (fun i wr => ∃ j : Nat, j ≤ 8 ∧ i = .int .u32 j ∧ wr = wc) (fun i _ => 8 - (intOf i).toNat)
  case atStart => exact ⟨0, by omega, rfl, rfl⟩
  case round =>
    obtain ⟨j, hj, rfl, hw⟩ := hrel
    subst hw
    by_cases hlt : j < 8
    · have HPI := Lib.hid (lz_pins HP.out (k := j) (by omega))
      have wr32 : IntKind.u32.wrap ((j : Int) + 1) = ((j + 1 : Nat) : Int) := by rw [IntKind.wrap_u32]; omega
      go_wp2_with fail
      refine HPI.out.mono ?_
      rintro e w7 ⟨rfl, hw7⟩
      subst w7
      go_wp2_with fail
      go_roundw
      case rel => exact ⟨j + 1, hlt, by go_num, trivial⟩
      case measure => simp [intOf]; omega
    · obtain rfl : j = 8 := by omega
      have HDI := Lib.hid (lz_dirty HP.out)
      go_wp2_with fail
      refine HDI.out.mono ?_
      rintro e w7 ⟨rfl, hb7⟩
      go_wp2_with fail
      refine (HW.out _).mono ?_
      rintro e w8 ⟨rfl, hb8⟩
      go_wp2_with fail
      go_ret
      exact ⟨rfl, hbw6.trans ((hb7.mono hbw6.size).trans (hb8.mono (Nat.le_trans hbw6.size hb7.size)))⟩
end Go.Proofs.YtphkggcdfkcidaaGreat
