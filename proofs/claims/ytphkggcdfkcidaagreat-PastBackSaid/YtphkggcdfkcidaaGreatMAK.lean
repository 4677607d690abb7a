/- The walk of package past: Undo of a record that is there. -/
import Derived.Test.YtphkggcdfkcidaaGreatMAJ
import Derived.Test.YtphkggcdfkcidaaGreatMAC
import Derived.OwnWalkIn
import Derived.Test.YtphkggcdfkcidaaGreatMAH
import Derived.Test.YtphkggcdfkcidaaGreatMAI
import Derived.RangeFuncLeaves

namespace Go.Proofs.YtphkggcdfkcidaaGreat
open Go.RowKit Go.Conc

/-- Writes to the law's own blocks leave the pool. -/
theorem LgAt.turns {pg : Nat → Sp.Pg} {K K' : Foot} {w w' : World} {gd gl gp n : Nat} {L : List (Nat × Nat)} (h : LgAt pg K w gd gl gp n L) (ht : Turns K K' w w') : LgAt pg K w' gd gl gp n L := by
  obtain ⟨hok, p, D, F, dk, hd, hlk, hpl, hn, hfr, hL, hDF, hb0, hKl⟩ := h
  have hin := hd.in_
  have hlt := hpl.lt
  exact ⟨hok, p, D, F, dk, hd.keep (fun b hb => ht.block b (hin b hb) (hb0 b (.inl hb))), hlk, hpl.keep ht.size (fun b hb => ht.block b (hlt b hb) (hb0 b (.inr hb))), hn, hfr, hL, hDF, hb0, fun b hk => Nat.lt_of_lt_of_le (hKl b hk) ht.size⟩
theorem LzAt.turns {pg : Nat → Sp.Pg} {K K' : Foot} {w w' : World} {gd gl gp : Nat} (h : LzAt pg K w gd gl gp) (ht : Turns K K' w w') : LzAt pg K w' gd gl gp := by
  obtain ⟨L, h, hz⟩ := h
  exact ⟨L, h.turns ht, hz⟩
theorem LgAt.drew {pg : Nat → Sp.Pg} {K : Foot} {w : World} {gd gl gp n : Nat} {L : List (Nat × Nat)} (h : LgAt pg K w gd gl gp n L) : LgAt pg K w.drew gd gl gp n L := h.turns ((Turns.refl K w).drew)
theorem LzAt.drew {pg : Nat → Sp.Pg} {K : Foot} {w : World} {gd gl gp : Nat} (h : LzAt pg K w gd gl gp) : LzAt pg K w.drew gd gl gp := h.turns ((Turns.refl K w).drew)
theorem LgAt.mono {pg : Nat → Sp.Pg} {K K' : Foot} {w : World} {gd gl gp n : Nat} {L : List (Nat × Nat)} (h : LgAt pg K w gd gl gp n L) (hk : ∀ b, K' b → K b) : LgAt pg K' w gd gl gp n L := h.more (Below.refl _ _) (fun b hb => .inl (hk b hb))
theorem LzAt.mono {pg : Nat → Sp.Pg} {K K' : Foot} {w : World} {gd gl gp : Nat} (h : LzAt pg K w gd gl gp) (hk : ∀ b, K' b → K b) : LzAt pg K' w gd gl gp := h.more (Below.refl _ _) (fun b hb => .inl (hk b hb))
theorem Kept.of_turns' {K F F' : Foot} {w w' : World} (h : Turns F F' w w') (hk : ∀ b, K b → b < w.heap.size ∧ ¬ F b) : Kept K w w' := Kept.of_turns h hk

/-- A page that is there can be pinned where none is. -/
theorem lz_pin {pg : Nat → Sp.Pg} {K : Foot} {w : World} {gd gl gp : Nat} {L : List (Nat × Nat)} (h : LgAt pg K w gd gl gp 2 L) (hz : ∀ x ∈ L, x.2 = 0) {k : Nat} (h1 : 1 ≤ k) (h6 : k ≤ 6) :
    Calls Tryz.prog 23 #[ptr gp, u32v k] w fun e w' => ∃ L' A c, e = .returned (.tuple #[pgV (pg k) A c, .int .i64 0]) ∧ OkAddr A ∧ RowsAt (fun b => w.heap.size ≤ b) w' A (pg k).rows ∧ LgAt pg K w' gd gl gp 2 L' ∧ Kept K w w' ∧ (k, 1) ∈ L' ∧ ∀ x ∈ Sp.aUnpin L' k, x.2 = 0 := by
  obtain ⟨L', ha, hm, hz'⟩ := Sp.aPin_zero (k := k) hz (lg_len h).1
  refine (lg_pin h h1 h6 (fun x hx => by rw [hz x hx]; omega)).mono ?_
  rintro e w' ⟨hk, (⟨ha', _⟩ | ⟨M, A, c, ha', rfl, hA, hR, hL⟩)⟩
  · rw [ha] at ha'; cases ha'
  · rw [ha] at ha'; injection ha' with e; subst e
    exact ⟨_, A, c, rfl, hA, hR, hL, hk, hm, hz'⟩

set_option maxRecDepth 100000 in
set_option maxHeartbeats 4000000 in
theorem past_undo {pg : Nat → Sp.Pg} {K : Foot} {w : World} {gd gl gp : Nat} (h : LzAt pg K w gd gl gp) {q s : Nat} (h1 : 1 ≤ q) (h6 : q ≤ 6) (hk : (pg q).kind = 3) (hs : s < (pg q).rows.length) (hs16 : s < 65536) (u : Sp.Ud) (hu : (pg q).rows[s] = u.bytes) (u1 : u.may) (u2 : u.wf) (u3 : u.was.pad = 0) :
    Calls Tryz.prog 12 #[ptr gp, .agg #[.int .u32 q, .int .u16 s]] w fun e w' => e = .returned (.tuple #[udV u, .int .i64 0]) ∧ Kept K w w' ∧ LzAt pg K w' gd gl gp := by
  obtain ⟨L, hL, hz⟩ := h
  have hKl := Lib.hid hL.lt
  obtain ⟨hok, _⟩ := id hL
  have HSG := Lib.hid fun (G : Foot) (W : World) (A : Option Addr) (c : Nat) (hR : RowsAt G W A (pg q).rows) => seg_get (c := c) hR (hok q h1 h6).2.1 hk hs hs16 u hu u1 u2 u3
  have HPN := Lib.hid fun (K : Foot) (W : World) (h : LgAt pg K W gd gl gp 2 L) => lz_pin h hz h1 h6
  have HL := Lib.hid hL
  clear hL hok hk hu u1 u2 u3
  go_enter_defers Tryz.func12, Tryz.ntmps12
  go_wp2_with fail
  obtain ⟨hT, hZ, hb1⟩ := alloc2 w 26 48 #[.int .u32 q, .int .u16 s] udZ
  generalize hw1 : World.alloc (World.alloc w _) _ = w1 at hT hZ hb1 ⊢
  clear hw1
  obtain ⟨gT, hgT⟩ : ∃ g, g = w.heap.size := ⟨_, rfl⟩
  obtain ⟨gR, hgR⟩ : ∃ g, g = w.heap.size + 1 := ⟨_, rfl⟩
  rw [← hgR] at hZ ⊢
  rw [← hgT] at hT ⊢
  have hTl := hT.lt
  have hZl := hZ.lt
  have hL1 := HL.out.more (K' := fun b => K b ∨ b = gT ∨ b = gR) hb1 (fun b hb => by rcases hb with hb | rfl | rfl; exact .inl hb; exact .inr ⟨by omega, hTl⟩; exact .inr ⟨by omega, hZl⟩)
  refine (HPN.out _ w1 hL1).mono ?_
  rintro e w2 ⟨L', A, c, rfl, hA, hR, hL2, hk2, hm, hz2⟩
  have HT := Lib.hid (hT.kept hk2 (.inr (.inl rfl)))
  have HZ := Lib.hid (hZ.kept hk2 (.inr (.inr rfl)))
  have HK := Lib.hid ((Kept.of_below hb1 hKl.out).trans (hk2.mono (fun b hb => .inl hb)))
  have HR := Lib.hid hR
  have HL2 := Lib.hid hL2
  have HM := Lib.hid hm
  have HZ2 := Lib.hid hz2
  have HRl := Lib.hid (show K gR → False from fun hg => by have := hKl.out gR hg; omega)
  have t0 := HT.out.cell 0
  have t1 := HT.out.cell 1
  simp only [List.getElem?_toArray, List.getElem?_cons_succ, List.getElem?_cons_zero] at t0 t1
  clear hT hZ hb1 hgT hgR hTl hZl hL1 hk2 hR hL2 hm hz2 HPN HL hA hz
  have hTl := HT.out.lt
  have hZl := HZ.out.lt
  have hb3 := (Below.refl w2.heap.size w2).alloc (Nat.le_refl _) (.cells (pgCs (pg q) A c) 53)
  have hRr := Reads.below HR.out hb3
  have HSC := Lib.hid (HSG.out _ _ A c hRr)
  clear hRr HSG
  go_wp2_with fail
  refine HSC.out.mono ?_
  rintro e w4 ⟨rfl, hb4⟩
  have hb24 := hb3.trans (hb4.mono hb3.size)
  replace HZ := Lib.hid (HZ.out.below hb24 HZ.out.lt)
  replace HK := Lib.hid (HK.out.trans (Kept.of_below hb24 (fun b hb => HL2.out.lt b (.inl hb))))
  replace HL2 := Lib.hid (HL2.out.below hb24)
  clear HSC hb3 hb4 HR HT t0 t1
  go_wp2_with (refine wpList_store_part rfl _ _ _ rfl gR 0 #[.int .u8 u.kind, .int .u64 u.tx, .int .u32 u.ppage, .int .u16 u.pslot, str u.key, str u.was.key, .bool u.was.mark, .int .u64 u.was.tx, .int .u32 u.was.page, .int .u16 u.was.slot, str u.was.value, .int .i64 u.was.pad] rfl rfl _ _ HZ.out ud_size (by show 0 + 12 ≤ 12; omega) (ud_one _ _ _ _ _ _ _ _ _ _ _ _) ?_)
  have hRf : Blk (w4.setRow gR (partRow udZ 0 (#[Value.int .u8 u.kind, .int .u64 u.tx, .int .u32 u.ppage, .int .u16 u.pslot, str u.key, str u.was.key, .bool u.was.mark, .int .u64 u.was.tx, .int .u32 u.was.page, .int .u16 u.was.slot, str u.was.value, .int .i64 u.was.pad]).toList)) gR 48 #[.int .u8 u.kind, .int .u64 u.tx, .int .u32 u.ppage, .int .u16 u.pslot, str u.key, str u.was.key, .bool u.was.mark, .int .u64 u.was.tx, .int .u32 u.was.page, .int .u16 u.was.slot, str u.was.value, .int .i64 u.was.pad] := HZ.out.setRow _
  have hLf := HL2.out.turns ((Turns.refl (fun b => K b ∨ b = gT ∨ b = gR) w4).setRow (.inl (.inr (.inr rfl))) (partRow udZ 0 (#[Value.int .u8 u.kind, .int .u64 u.tx, .int .u32 u.ppage, .int .u16 u.pslot, str u.key, str u.was.key, .bool u.was.mark, .int .u64 u.was.tx, .int .u32 u.was.page, .int .u16 u.was.slot, str u.was.value, .int .i64 u.was.pad]).toList))
  have hKf : Kept K w (w4.setRow gR (partRow udZ 0 (#[Value.int .u8 u.kind, .int .u64 u.tx, .int .u32 u.ppage, .int .u16 u.pslot, str u.key, str u.was.key, .bool u.was.mark, .int .u64 u.was.tx, .int .u32 u.was.page, .int .u16 u.was.slot, str u.was.value, .int .i64 u.was.pad]).toList)) := HK.out.trans ⟨rfl, rfl, rfl, by simp, fun b hb => heap_setRow_other _ _ _ _ (fun e => HRl.out (e ▸ hb))⟩
  clear HZ HL2 HK
  generalize World.setRow _ gR _ = wf at hRf hLf hKf ⊢
  refine leaves_cons (f := 24) (args := #[ptr gp, u32v q]) (by simp) (by simp [go_sem]) ?_
  refine (lg_unpin_d hLf (by omega) HM.out (by omega) .returning).mono ?_
  rintro e u' w6 ⟨rfl, rfl, hk6, hL6⟩
  have hRg := hRf.kept hk6 (.inr (.inr rfl))
  have hKg := hKf.trans (hk6.mono (fun b hb => .inl hb))
  have k0 := hRg.cell 0
  have k1 := hRg.cell 1
  have k2 := hRg.cell 2
  have k3 := hRg.cell 3
  have k4 := hRg.cell 4
  have k5 := hRg.cell 5
  have k6 := hRg.cell 6
  have k7 := hRg.cell 7
  have k8 := hRg.cell 8
  have k9 := hRg.cell 9
  have k10 := hRg.cell 10
  have k11 := hRg.cell 11
  simp only [List.getElem?_toArray, List.getElem?_cons_succ, List.getElem?_cons_zero] at k0 k1 k2 k3 k4 k5 k6 k7 k8 k9 k10 k11
  refine ⟨.tuple #[udV u, .int .i64 0], by rw [results_cell_tmp rfl]; go_simp, rfl, hKg, _, hL6.mono (fun b hb => .inl hb), HZ2.out⟩
end Go.Proofs.YtphkggcdfkcidaaGreat

/- The walk of package past: Back: what stood ahead of a row. -/
namespace Go.Proofs.YtphkggcdfkcidaaGreat
open Go.RowKit Go.Conc

theorem results_cell_tmp2 {fn : Func} {p u v : Tmp} {ty : TypeId} (h : fn.results = #[.cell p ty, .tmp u, .tmp v]) (tmps : Array Value) (P : Program) (w : World) :
    (results fn tmps).run P w =
      ((asAddr (tmps.getD p undef)).run P w).andThen fun a w₁ => ((loadVar ty a).run P w₁).andThen fun x w₂ => .ok (.tuple #[x, tmps.getD u undef, tmps.getD v undef]) w₂ := by
  simp only [results, h]
  simp [Sem.run_bind, Result.andThen]

/-- A row of zeros. -/
abbrev rwZ : Array Value := #[str [], .bool false, .int .u64 0, .int .u32 0, .int .u16 0, str [], .int .i64 0]
abbrev rwZV : Value := .agg rwZ

theorem past_back_nil (r : Sp.Rw) (w : World) : Calls Tryz.prog 11 #[.pointer none, rwV r] w fun e w' => e = .returned (.tuple #[rwZV, .bool false, .int .i64 1]) ∧ Below w.heap.size w w' := by
  go_enter Tryz.func11, Tryz.ntmps11
  go_wp2_with fail
  refine bodyPost_ret (v := .tuple #[rwZV, .bool false, .int .i64 1]) (by rw [results_cell_tmp2 rfl]; go_simp) rfl ⟨rfl, ?_⟩
  exact ((Below.refl _ _).alloc (Nat.le_refl _) _).alloc (by simp) _
theorem past_back_zero (r : Sp.Rw) (h : r.page = 0) (gp : Nat) (w : World) : Calls Tryz.prog 11 #[ptr gp, rwV r] w fun e w' => e = .returned (.tuple #[rwZV, .bool false, .int .i64 0]) ∧ Below w.heap.size w w' := by
  have d1 : ((r.page : Int) == 0) = true := by simp; omega
  have d2 : decide ((r.page : Int) = 0) = true := by rw [decide_eq_true_eq]; omega
  clear h
  go_enter Tryz.func11, Tryz.ntmps11
  go_wp2_with fail
  refine bodyPost_ret (v := .tuple #[rwZV, .bool false, .int .i64 0]) (by rw [results_cell_tmp2 rfl]; go_simp) rfl ⟨rfl, ?_⟩
  exact ((Below.refl _ _).alloc (Nat.le_refl _) _).alloc (by simp) _

/-- What Undo answers of a record that is there: the word of its contract. -/
def UndoAt (pg : Nat → Sp.Pg) (gd gl gp q s : Nat) (u : Sp.Ud) : Prop :=
  ∀ (K : Foot) (w : World), LzAt pg K w gd gl gp → Calls Tryz.prog 12 #[ptr gp, .agg #[.int .u32 q, .int .u16 s]] w fun e w' => e = .returned (.tuple #[udV u, .int .i64 0]) ∧ Kept K w w' ∧ LzAt pg K w' gd gl gp
theorem undo_at {pg : Nat → Sp.Pg} {gd gl gp q s : Nat} (h1 : 1 ≤ q) (h6 : q ≤ 6) (hk : (pg q).kind = 3) (hs16 : s < 65536) (u : Sp.Ud) (hu : (pg q).rows[s]? = some u.bytes) (u1 : u.may) (u2 : u.wf) (u3 : u.was.pad = 0) : UndoAt pg gd gl gp q s u := fun K w h => by
  obtain ⟨hs, hu'⟩ := List.getElem?_eq_some_iff.1 hu
  exact past_undo h h1 h6 hk hs hs16 u hu' u1 u2 u3

set_option maxRecDepth 100000 in
set_option maxHeartbeats 4000000 in
theorem past_back_put {pg : Nat → Sp.Pg} {K : Foot} {w : World} {gd gl gp : Nat} (h : LzAt pg K w gd gl gp) (r : Sp.Rw) (u : Sp.Ud) (hp : 1 ≤ r.page) (hu : UndoAt pg gd gl gp r.page r.slot u) (htx : u.tx = r.tx) (hkey : u.key = r.key) (hkind : u.kind = 2) :
    Calls Tryz.prog 11 #[ptr gp, rwV r] w fun e w' => e = .returned (.tuple #[rwV u.was, .bool true, .int .i64 0]) ∧ Kept K w w' ∧ LzAt pg K w' gd gl gp := by
  have hKl := Lib.hid h.lt
  have d1 : ((r.page : Int) == 0) = false := by simp; omega
  have d2 : decide ((r.page : Int) = 0) = false := by rw [decide_eq_false_iff_not]; omega
  have HL := Lib.hid h
  have HU := Lib.hid hu
  have e1 : ((u.tx : Int) != (r.tx : Int)) = false := by simp; omega
  have e2 : decide ((u.tx : Int) = (r.tx : Int)) = true := by rw [decide_eq_true_eq]; omega
  have HKEY := Lib.hid hkey
  have HKIND := Lib.hid hkind
  clear htx hkey hkind
  clear h hu hp
  go_enter Tryz.func11, Tryz.ntmps11
  go_wp2_with fail
  obtain ⟨hB, hZ, hb1⟩ := alloc2 w 37 37 (rwCs r).toArray rwZ
  generalize hw1 : World.alloc (World.alloc w _) _ = w1 at hB hZ hb1 ⊢
  clear hw1
  obtain ⟨gB, hgB⟩ : ∃ g, g = w.heap.size := ⟨_, rfl⟩
  obtain ⟨gR, hgR⟩ : ∃ g, g = w.heap.size + 1 := ⟨_, rfl⟩
  rw [← hgR] at hZ ⊢
  rw [← hgB] at hB ⊢
  have hBl := hB.lt
  have hZl := hZ.lt
  have hL1 := HL.out.more (K' := fun b => K b ∨ b = gB ∨ b = gR) hb1 (fun b hb => by rcases hb with hb | rfl | rfl; exact .inl hb; exact .inr ⟨by omega, hBl⟩; exact .inr ⟨by omega, hZl⟩)
  refine (HU.out _ w1 hL1).mono ?_
  rintro e w2 ⟨rfl, hk2, hL2⟩
  have HB := Lib.hid (hB.kept hk2 (.inr (.inl rfl)))
  have HZ := Lib.hid (hZ.kept hk2 (.inr (.inr rfl)))
  have HK := Lib.hid ((Kept.of_below hb1 hKl.out).trans (hk2.mono (fun b hb => .inl hb)))
  have HL2 := Lib.hid hL2
  have HRl := Lib.hid (show K gR → False from fun hg => by have := hKl.out gR hg; omega)
  have hBl2 := HB.out.lt
  have hZl2 := HZ.out.lt
  have b0 := HB.out.cell 0
  have b2 := HB.out.cell 2
  simp only [List.getElem?_toArray, List.getElem?_cons_succ, List.getElem?_cons_zero] at b0 b2
  clear hB hZ hb1 hgB hgR hL1 hk2 hL2 HL HU hBl hZl
  have huv : udV u = .agg #[.int .u8 u.kind, .int .u64 u.tx, .int .u32 u.ppage, .int .u16 u.pslot, str r.key, str u.was.key, .bool u.was.mark, .int .u64 u.was.tx, .int .u32 u.was.page, .int .u16 u.was.slot, str u.was.value, .int .i64 u.was.pad] := by show Value.agg #[.int .u8 u.kind, .int .u64 u.tx, .int .u32 u.ppage, .int .u16 u.pslot, str u.key, str u.was.key, .bool u.was.mark, .int .u64 u.was.tx, .int .u32 u.was.page, .int .u16 u.was.slot, str u.was.value, .int .i64 u.was.pad] = _; rw [HKEY.out]
  have HBF := Lib.hid fun (W : World) => undo_before_put u HKIND.out W
  rw [huv] at HBF ⊢
  clear huv
  have hb3 := (Below.refl w2.heap.size w2).alloc (Nat.le_refl _) (.cells #[.int .u8 u.kind, .int .u64 u.tx, .int .u32 u.ppage, .int .u16 u.pslot, str r.key, str u.was.key, .bool u.was.mark, .int .u64 u.was.tx, .int .u32 u.was.page, .int .u16 u.was.slot, str u.was.value, .int .i64 u.was.pad] 48)
  go_wp2_with fail
  refine (HBF.out _).mono ?_
  rintro e w4 ⟨rfl, hb4⟩
  have hb24 := hb3.trans (hb4.mono hb3.size)
  replace HZ := Lib.hid (HZ.out.below hb24 HZ.out.lt)
  replace HK := Lib.hid (HK.out.trans (Kept.of_below hb24 (fun b hb => HL2.out.lt b (.inl hb))))
  replace HL2 := Lib.hid (HL2.out.below hb24)
  clear HB b0 b2 hb3 hb4 hb24 HBF hBl2 hZl2
  go_upto_region 12 with (refine wpList_store_part rfl _ _ _ rfl gR 0 #[str u.was.key, .bool u.was.mark, .int .u64 u.was.tx, .int .u32 u.was.page, .int .u16 u.was.slot, str u.was.value, .int .i64 u.was.pad] rfl rfl _ _ HZ.out row_size (by show 0 + 7 ≤ 7; omega) (row_one _ _ _ _ _ _ _) ?_)
  have hRf : Blk (w4.setRow gR (partRow rwZ 0 (#[Value.string ⟨u.was.key.toArray⟩, .bool u.was.mark, .int .u64 u.was.tx, .int .u32 u.was.page, .int .u16 u.was.slot, str u.was.value, .int .i64 u.was.pad]).toList)) gR 37 #[str u.was.key, .bool u.was.mark, .int .u64 u.was.tx, .int .u32 u.was.page, .int .u16 u.was.slot, str u.was.value, .int .i64 u.was.pad] := HZ.out.setRow _
  have hLf := HL2.out.turns ((Turns.refl (fun b => K b ∨ b = gB ∨ b = gR) w4).setRow (.inl (.inr (.inr rfl))) (partRow rwZ 0 (#[Value.string ⟨u.was.key.toArray⟩, .bool u.was.mark, .int .u64 u.was.tx, .int .u32 u.was.page, .int .u16 u.was.slot, str u.was.value, .int .i64 u.was.pad]).toList))
  have hKf : Kept K w (w4.setRow gR (partRow rwZ 0 (#[Value.string ⟨u.was.key.toArray⟩, .bool u.was.mark, .int .u64 u.was.tx, .int .u32 u.was.page, .int .u16 u.was.slot, str u.was.value, .int .i64 u.was.pad]).toList)) := HK.out.trans ⟨rfl, rfl, rfl, by simp, fun b hb => heap_setRow_other _ _ _ _ (fun e => HRl.out (e ▸ hb))⟩
  clear HZ HL2 HK
  generalize World.setRow _ gR _ = w5 at hRf hLf hKf ⊢
  have HZ := Lib.hid hRf
  have HL2 := Lib.hid hLf
  have HK := Lib.hid hKf
  have k0 := hRf.cell 0
  have k1 := hRf.cell 1
  have k2 := hRf.cell 2
  have k3 := hRf.cell 3
  have k4 := hRf.cell 4
  have k5 := hRf.cell 5
  have k6 := hRf.cell 6
  simp only [List.getElem?_toArray, List.getElem?_cons_succ, List.getElem?_cons_zero] at k0 k1 k2 k3 k4 k5 k6
  clear hRf hLf hKf
  go_wp2_with (refine wpList_store_part rfl _ _ _ rfl gR 0 #[str u.was.key, .bool u.was.mark, .int .u64 u.was.tx, .int .u32 u.was.page, .int .u16 u.was.slot, str u.was.value, .int .i64 u.was.pad] rfl rfl _ _ HZ.out row_size (by show 0 + 7 ≤ 7; omega) (row_one _ _ _ _ _ _ _) ?_)
  clear k0 k1 k2 k3 k4 k5 k6
  have hRf : Blk (w5.setRow gR (partRow #[str u.was.key, .bool u.was.mark, .int .u64 u.was.tx, .int .u32 u.was.page, .int .u16 u.was.slot, str u.was.value, .int .i64 u.was.pad] 0 (#[Value.string ⟨u.was.key.toArray⟩, .bool u.was.mark, .int .u64 u.was.tx, .int .u32 u.was.page, .int .u16 u.was.slot, str u.was.value, .int .i64 u.was.pad]).toList)) gR 37 #[str u.was.key, .bool u.was.mark, .int .u64 u.was.tx, .int .u32 u.was.page, .int .u16 u.was.slot, str u.was.value, .int .i64 u.was.pad] := HZ.out.setRow _
  have hLf := HL2.out.turns ((Turns.refl (fun b => K b ∨ b = gB ∨ b = gR) w5).setRow (.inl (.inr (.inr rfl))) (partRow #[str u.was.key, .bool u.was.mark, .int .u64 u.was.tx, .int .u32 u.was.page, .int .u16 u.was.slot, str u.was.value, .int .i64 u.was.pad] 0 (#[Value.string ⟨u.was.key.toArray⟩, .bool u.was.mark, .int .u64 u.was.tx, .int .u32 u.was.page, .int .u16 u.was.slot, str u.was.value, .int .i64 u.was.pad]).toList))
  have hKf : Kept K w (w5.setRow gR (partRow #[str u.was.key, .bool u.was.mark, .int .u64 u.was.tx, .int .u32 u.was.page, .int .u16 u.was.slot, str u.was.value, .int .i64 u.was.pad] 0 (#[Value.string ⟨u.was.key.toArray⟩, .bool u.was.mark, .int .u64 u.was.tx, .int .u32 u.was.page, .int .u16 u.was.slot, str u.was.value, .int .i64 u.was.pad]).toList)) := HK.out.trans ⟨rfl, rfl, rfl, by simp, fun b hb => heap_setRow_other _ _ _ _ (fun e => HRl.out (e ▸ hb))⟩
  clear HZ HL2 HK
  generalize World.setRow _ gR _ = wf at hRf hLf hKf ⊢
  have k0 := hRf.cell 0
  have k1 := hRf.cell 1
  have k2 := hRf.cell 2
  have k3 := hRf.cell 3
  have k4 := hRf.cell 4
  have k5 := hRf.cell 5
  have k6 := hRf.cell 6
  simp only [List.getElem?_toArray, List.getElem?_cons_succ, List.getElem?_cons_zero] at k0 k1 k2 k3 k4 k5 k6
  refine bodyPost_ret (v := .tuple #[rwV u.was, .bool true, .int .i64 0]) (by rw [results_cell_tmp2 rfl]; go_simp) rfl ⟨rfl, hKf, hLf.mono (fun b hb => .inl hb)⟩

set_option maxRecDepth 100000 in
set_option maxHeartbeats 4000000 in
theorem past_back_new {pg : Nat → Sp.Pg} {K : Foot} {w : World} {gd gl gp : Nat} (h : LzAt pg K w gd gl gp) (r : Sp.Rw) (u : Sp.Ud) (hp : 1 ≤ r.page) (hu : UndoAt pg gd gl gp r.page r.slot u) (htx : u.tx = r.tx) (hkey : u.key = r.key) (hkind : u.kind = 1) :
    Calls Tryz.prog 11 #[ptr gp, rwV r] w fun e w' => e = .returned (.tuple #[rwZV, .bool false, .int .i64 0]) ∧ Kept K w w' ∧ LzAt pg K w' gd gl gp := by
  have hKl := Lib.hid h.lt
  have d1 : ((r.page : Int) == 0) = false := by simp; omega
  have d2 : decide ((r.page : Int) = 0) = false := by rw [decide_eq_false_iff_not]; omega
  have HL := Lib.hid h
  have HU := Lib.hid hu
  have e1 : ((u.tx : Int) != (r.tx : Int)) = false := by simp; omega
  have e2 : decide ((u.tx : Int) = (r.tx : Int)) = true := by rw [decide_eq_true_eq]; omega
  have HKEY := Lib.hid hkey
  have HKIND := Lib.hid hkind
  clear htx hkey hkind
  clear h hu hp
  go_enter Tryz.func11, Tryz.ntmps11
  go_wp2_with fail
  obtain ⟨hB, hZ, hb1⟩ := alloc2 w 37 37 (rwCs r).toArray rwZ
  generalize hw1 : World.alloc (World.alloc w _) _ = w1 at hB hZ hb1 ⊢
  clear hw1
  obtain ⟨gB, hgB⟩ : ∃ g, g = w.heap.size := ⟨_, rfl⟩
  obtain ⟨gR, hgR⟩ : ∃ g, g = w.heap.size + 1 := ⟨_, rfl⟩
  rw [← hgR] at hZ ⊢
  rw [← hgB] at hB ⊢
  have hBl := hB.lt
  have hZl := hZ.lt
  have hL1 := HL.out.more (K' := fun b => K b ∨ b = gB ∨ b = gR) hb1 (fun b hb => by rcases hb with hb | rfl | rfl; exact .inl hb; exact .inr ⟨by omega, hBl⟩; exact .inr ⟨by omega, hZl⟩)
  refine (HU.out _ w1 hL1).mono ?_
  rintro e w2 ⟨rfl, hk2, hL2⟩
  have HB := Lib.hid (hB.kept hk2 (.inr (.inl rfl)))
  have HZ := Lib.hid (hZ.kept hk2 (.inr (.inr rfl)))
  have HK := Lib.hid ((Kept.of_below hb1 hKl.out).trans (hk2.mono (fun b hb => .inl hb)))
  have HL2 := Lib.hid hL2
  have HRl := Lib.hid (show K gR → False from fun hg => by have := hKl.out gR hg; omega)
  have hBl2 := HB.out.lt
  have hZl2 := HZ.out.lt
  have b0 := HB.out.cell 0
  have b2 := HB.out.cell 2
  simp only [List.getElem?_toArray, List.getElem?_cons_succ, List.getElem?_cons_zero] at b0 b2
  clear hB hZ hb1 hgB hgR hL1 hk2 hL2 HL HU hBl hZl
  have huv : udV u = .agg #[.int .u8 u.kind, .int .u64 u.tx, .int .u32 u.ppage, .int .u16 u.pslot, str r.key, str u.was.key, .bool u.was.mark, .int .u64 u.was.tx, .int .u32 u.was.page, .int .u16 u.was.slot, str u.was.value, .int .i64 u.was.pad] := by show Value.agg #[.int .u8 u.kind, .int .u64 u.tx, .int .u32 u.ppage, .int .u16 u.pslot, str u.key, str u.was.key, .bool u.was.mark, .int .u64 u.was.tx, .int .u32 u.was.page, .int .u16 u.was.slot, str u.was.value, .int .i64 u.was.pad] = _; rw [HKEY.out]
  have HBF := Lib.hid fun (W : World) => undo_before_new u HKIND.out W
  rw [huv] at HBF ⊢
  clear huv
  have hb3 := (Below.refl w2.heap.size w2).alloc (Nat.le_refl _) (.cells #[.int .u8 u.kind, .int .u64 u.tx, .int .u32 u.ppage, .int .u16 u.pslot, str r.key, str u.was.key, .bool u.was.mark, .int .u64 u.was.tx, .int .u32 u.was.page, .int .u16 u.was.slot, str u.was.value, .int .i64 u.was.pad] 48)
  go_wp2_with fail
  refine (HBF.out _).mono ?_
  rintro e w4 ⟨rfl, hb4⟩
  have hb24 := hb3.trans (hb4.mono hb3.size)
  replace HZ := Lib.hid (HZ.out.below hb24 HZ.out.lt)
  replace HK := Lib.hid (HK.out.trans (Kept.of_below hb24 (fun b hb => HL2.out.lt b (.inl hb))))
  replace HL2 := Lib.hid (HL2.out.below hb24)
  clear HB b0 b2 hb3 hb4 hb24 HBF hBl2 hZl2
  go_upto_region 12 with (refine wpList_store_part rfl _ _ _ rfl gR 0 rwZ rfl rfl _ _ HZ.out row_size (by show 0 + 7 ≤ 7; omega) (row_one _ _ _ _ _ _ _) ?_)
  have hRf : Blk (w4.setRow gR (partRow rwZ 0 (rwZ).toList)) gR 37 rwZ := HZ.out.setRow _
  have hLf := HL2.out.turns ((Turns.refl (fun b => K b ∨ b = gB ∨ b = gR) w4).setRow (.inl (.inr (.inr rfl))) (partRow rwZ 0 (rwZ).toList))
  have hKf : Kept K w (w4.setRow gR (partRow rwZ 0 (rwZ).toList)) := HK.out.trans ⟨rfl, rfl, rfl, by simp, fun b hb => heap_setRow_other _ _ _ _ (fun e => HRl.out (e ▸ hb))⟩
  clear HZ HL2 HK
  generalize World.setRow _ gR _ = w5 at hRf hLf hKf ⊢
  have HZ := Lib.hid hRf
  have HL2 := Lib.hid hLf
  have HK := Lib.hid hKf
  have k0 := hRf.cell 0
  have k1 := hRf.cell 1
  have k2 := hRf.cell 2
  have k3 := hRf.cell 3
  have k4 := hRf.cell 4
  have k5 := hRf.cell 5
  have k6 := hRf.cell 6
  simp only [List.getElem?_toArray, List.getElem?_cons_succ, List.getElem?_cons_zero] at k0 k1 k2 k3 k4 k5 k6
  clear hRf hLf hKf
  go_wp2_with (refine wpList_store_part rfl _ _ _ rfl gR 0 rwZ rfl rfl _ _ HZ.out row_size (by show 0 + 7 ≤ 7; omega) (row_one _ _ _ _ _ _ _) ?_)
  clear k0 k1 k2 k3 k4 k5 k6
  have hRf : Blk (w5.setRow gR (partRow rwZ 0 (rwZ).toList)) gR 37 rwZ := HZ.out.setRow _
  have hLf := HL2.out.turns ((Turns.refl (fun b => K b ∨ b = gB ∨ b = gR) w5).setRow (.inl (.inr (.inr rfl))) (partRow rwZ 0 (rwZ).toList))
  have hKf : Kept K w (w5.setRow gR (partRow rwZ 0 (rwZ).toList)) := HK.out.trans ⟨rfl, rfl, rfl, by simp, fun b hb => heap_setRow_other _ _ _ _ (fun e => HRl.out (e ▸ hb))⟩
  clear HZ HL2 HK
  generalize World.setRow _ gR _ = wf at hRf hLf hKf ⊢
  have k0 := hRf.cell 0
  have k1 := hRf.cell 1
  have k2 := hRf.cell 2
  have k3 := hRf.cell 3
  have k4 := hRf.cell 4
  have k5 := hRf.cell 5
  have k6 := hRf.cell 6
  simp only [List.getElem?_toArray, List.getElem?_cons_succ, List.getElem?_cons_zero] at k0 k1 k2 k3 k4 k5 k6
  refine bodyPost_ret (v := .tuple #[rwZV, .bool false, .int .i64 0]) (by rw [results_cell_tmp2 rfl]; go_simp) rfl ⟨rfl, hKf, hLf.mono (fun b hb => .inl hb)⟩

set_option maxRecDepth 100000 in
set_option maxHeartbeats 4000000 in
theorem past_back_bad {pg : Nat → Sp.Pg} {K : Foot} {w : World} {gd gl gp : Nat} (h : LzAt pg K w gd gl gp) (r : Sp.Rw) (u : Sp.Ud) (hp : 1 ≤ r.page) (hu : UndoAt pg gd gl gp r.page r.slot u) (htx : u.tx ≠ r.tx) :
    Calls Tryz.prog 11 #[ptr gp, rwV r] w fun e w' => e = .returned (.tuple #[rwZV, .bool false, .int .i64 120]) ∧ Kept K w w' ∧ LzAt pg K w' gd gl gp := by
  have hKl := Lib.hid h.lt
  have d1 : ((r.page : Int) == 0) = false := by simp; omega
  have d2 : decide ((r.page : Int) = 0) = false := by rw [decide_eq_false_iff_not]; omega
  have HL := Lib.hid h
  have HU := Lib.hid hu
  have e1 : ((u.tx : Int) != (r.tx : Int)) = true := by simp; omega
  have e2 : decide ((u.tx : Int) = (r.tx : Int)) = false := by rw [decide_eq_false_iff_not]; omega
  clear htx
  clear h hu hp
  go_enter Tryz.func11, Tryz.ntmps11
  go_wp2_with fail
  obtain ⟨hB, hZ, hb1⟩ := alloc2 w 37 37 (rwCs r).toArray rwZ
  generalize hw1 : World.alloc (World.alloc w _) _ = w1 at hB hZ hb1 ⊢
  clear hw1
  obtain ⟨gB, hgB⟩ : ∃ g, g = w.heap.size := ⟨_, rfl⟩
  obtain ⟨gR, hgR⟩ : ∃ g, g = w.heap.size + 1 := ⟨_, rfl⟩
  rw [← hgR] at hZ ⊢
  rw [← hgB] at hB ⊢
  have hBl := hB.lt
  have hZl := hZ.lt
  have hL1 := HL.out.more (K' := fun b => K b ∨ b = gB ∨ b = gR) hb1 (fun b hb => by rcases hb with hb | rfl | rfl; exact .inl hb; exact .inr ⟨by omega, hBl⟩; exact .inr ⟨by omega, hZl⟩)
  refine (HU.out _ w1 hL1).mono ?_
  rintro e w2 ⟨rfl, hk2, hL2⟩
  have HB := Lib.hid (hB.kept hk2 (.inr (.inl rfl)))
  have HZ := Lib.hid (hZ.kept hk2 (.inr (.inr rfl)))
  have HK := Lib.hid ((Kept.of_below hb1 hKl.out).trans (hk2.mono (fun b hb => .inl hb)))
  have HL2 := Lib.hid hL2
  have HRl := Lib.hid (show K gR → False from fun hg => by have := hKl.out gR hg; omega)
  have hBl2 := HB.out.lt
  have hZl2 := HZ.out.lt
  have b0 := HB.out.cell 0
  have b2 := HB.out.cell 2
  simp only [List.getElem?_toArray, List.getElem?_cons_succ, List.getElem?_cons_zero] at b0 b2
  clear hB hZ hb1 hgB hgR hL1 hk2 hL2 HL HU hBl hZl
  have hb3 := (Below.refl w2.heap.size w2).alloc (Nat.le_refl _) (.cells #[.int .u8 u.kind, .int .u64 u.tx, .int .u32 u.ppage, .int .u16 u.pslot, str u.key, str u.was.key, .bool u.was.mark, .int .u64 u.was.tx, .int .u32 u.was.page, .int .u16 u.was.slot, str u.was.value, .int .i64 u.was.pad] 48)
  replace HZ := Lib.hid (HZ.out.below hb3 HZ.out.lt)
  replace HK := Lib.hid (HK.out.trans (Kept.of_below hb3 (fun b hb => HL2.out.lt b (.inl hb))))
  replace HL2 := Lib.hid (HL2.out.below hb3)
  clear HB hb3
  go_wp2_with (refine wpList_store_part rfl _ _ _ rfl gR 0 rwZ rfl rfl _ _ HZ.out row_size (by show 0 + 7 ≤ 7; omega) (row_one _ _ _ _ _ _ _) ?_)
  have hRf : Blk ((w2.alloc (.cells #[.int .u8 u.kind, .int .u64 u.tx, .int .u32 u.ppage, .int .u16 u.pslot, str u.key, str u.was.key, .bool u.was.mark, .int .u64 u.was.tx, .int .u32 u.was.page, .int .u16 u.was.slot, str u.was.value, .int .i64 u.was.pad] 48)).setRow gR (partRow rwZ 0 (rwZ).toList)) gR 37 rwZ := HZ.out.setRow _
  have hLf := HL2.out.turns ((Turns.refl (fun b => K b ∨ b = gB ∨ b = gR) (w2.alloc (.cells #[.int .u8 u.kind, .int .u64 u.tx, .int .u32 u.ppage, .int .u16 u.pslot, str u.key, str u.was.key, .bool u.was.mark, .int .u64 u.was.tx, .int .u32 u.was.page, .int .u16 u.was.slot, str u.was.value, .int .i64 u.was.pad] 48))).setRow (.inl (.inr (.inr rfl))) (partRow rwZ 0 (rwZ).toList))
  have hKf : Kept K w ((w2.alloc (.cells #[.int .u8 u.kind, .int .u64 u.tx, .int .u32 u.ppage, .int .u16 u.pslot, str u.key, str u.was.key, .bool u.was.mark, .int .u64 u.was.tx, .int .u32 u.was.page, .int .u16 u.was.slot, str u.was.value, .int .i64 u.was.pad] 48)).setRow gR (partRow rwZ 0 (rwZ).toList)) := HK.out.trans ⟨rfl, rfl, rfl, by simp, fun b hb => heap_setRow_other _ _ _ _ (fun e => HRl.out (e ▸ hb))⟩
  clear HZ HL2 HK
  generalize World.setRow _ gR _ = wf at hRf hLf hKf ⊢
  have k0 := hRf.cell 0
  have k1 := hRf.cell 1
  have k2 := hRf.cell 2
  have k3 := hRf.cell 3
  have k4 := hRf.cell 4
  have k5 := hRf.cell 5
  have k6 := hRf.cell 6
  simp only [List.getElem?_toArray, List.getElem?_cons_succ, List.getElem?_cons_zero] at k0 k1 k2 k3 k4 k5 k6
  refine bodyPost_ret (v := .tuple #[rwZV, .bool false, .int .i64 120]) (by rw [results_cell_tmp2 rfl]; go_simp) rfl ⟨rfl, hKf, hLf.mono (fun b hb => .inl hb)⟩

end Go.Proofs.YtphkggcdfkcidaaGreat

/- A store of a part of a row, and of whole rows, within a fence. No program is named here. -/
namespace Go.Proofs.YtphkggcdfkcidaaGreat
open Go.RowKit

section
variable {P : Program}
theorem wpListIn_store_part {F : Fence} {n : Nat} {ops : Array Oper} {rest : List Oper} {o : Oper} {a : Act} {w : World} {Q : Exit → Act → World → Prop} (hgd : o.guard = none) (ty : TypeId) (x y : Operand) (ho : o.op = .store ty x y)
    (g k : Nat) (cells : Array Value) (hx : a.eval x = .pointer (some ⟨g, k, none⟩)) (hy : a.eval y = .agg cells)
    (t : TypeId) (old : Array Value) (hg : w.heap[g]? = some (.cells old t (0, 0))) (hi : (P.info? ty).map (·.size) = some cells.size)
    (hold : k + cells.size ≤ old.size) (h1 : cells.all (·.oneCell') = true)
    (h : wpListIn F n P ops Q rest (a.put o.dst undef) (w.setRow g (partRow old k cells.toList))) : wpListIn F n P ops Q (o :: rest) a w := by
  refine wpListIn_plain hgd fun K hK => ?_
  unfold Oper.wpIn
  refine ⟨?_, ?_⟩
  · simp [Oper.about, ho]
  · rw [Oper.semAt_plain F _ _ (by rw [ho]; intro c hc; cases hc)]
    unfold execOp
    simp only [ho, hx, hy, Instr.storeAt, Instr.sureAddr, Sem.run_bind, Sem.run_pure, Result.andThen_ok, run_storeVar_part w g k t ty old cells hg hi hold h1]
    exact hK _ _ h
end
end Go.Proofs.YtphkggcdfkcidaaGreat

/- The walk of package past: versions: the iterator over a row and what was ahead of it. -/
namespace Go.Proofs.YtphkggcdfkcidaaGreat
open Go.RowKit Go.Conc

/-- What Back answers of the i-th version. -/
def BackAt (pg : Nat → Sp.Pg) (gd gl gp : Nat) (row : Nat → Sp.Rw) (i : Nat) : Prop :=
  ∀ (K : Foot) (w : World), LzAt pg K w gd gl gp → Calls Tryz.prog 11 #[ptr gp, rwV (row i)] w fun e w' => e = .returned (.tuple #[if i = 0 then rwZV else rwV (row (i - 1)), .bool (decide (0 < i)), .int .i64 0]) ∧ Kept K w w' ∧ LzAt pg K w' gd gl gp

theorem vrow_cells {r : Sp.Rw} {g : Nat} {W : World} (h : Blk W g 37 (rwCs r).toArray) :
    W.cell? ⟨g, 0, none⟩ = some (str r.key) ∧ W.cell? ⟨g, 1, none⟩ = some (.bool r.mark) ∧ W.cell? ⟨g, 2, none⟩ = some (.int .u64 r.tx) ∧ W.cell? ⟨g, 3, none⟩ = some (.int .u32 r.page) ∧ W.cell? ⟨g, 4, none⟩ = some (.int .u16 r.slot) ∧ W.cell? ⟨g, 5, none⟩ = some (str r.value) ∧ W.cell? ⟨g, 6, none⟩ = some (.int .i64 r.pad) :=
  ⟨h.cell 0, h.cell 1, h.cell 2, h.cell 3, h.cell 4, h.cell 5, h.cell 6⟩
theorem vptr_cell {p g : Nat} {W : World} (h : Blk W g 43 #[ptr p]) : W.cell? ⟨g, 0, none⟩ = some (ptr p) := h.cell 0

/-- What the iterator, and its caller, have between two rounds: the versions below j are still to come; the next one lies in block grb. -/
structure VsAt (pg : Nat → Sp.Pg) (gd gl gp : Nat) (row : Nat → Sp.Rw) (KK : Foot) (grb gpb : Nat) (X : Nat → World → Prop) (j i : Nat) (W : World) : Prop where
  x : X j W
  pool : LzAt pg KK W gd gl gp
  box : Blk W grb 37 (rwCs (row i)).toArray
  pb : Blk W gpb 43 #[ptr gp]

set_option maxRecDepth 100000 in
set_option maxHeartbeats 4000000 in
theorem versions1 (pg : Nat → Sp.Pg) (gd gl gp : Nat) (row : Nat → Sp.Rw) (KK KX : Foot) (grb gpb l k n : Nat) (hk : k ≤ 1000) (hKX : ∀ b, KX b → KK b) (hKr : KK grb) (hKp : KK gpb) (hXr : ¬ KX grb) (hne : gpb ≠ grb)
    (X : Nat → World → Prop) (Jx : World → Prop) (hX : ∀ i W W', X i W → Kept KX W W' → X i W')
    (hY : ∀ i W, i ≤ k → VsAt pg gd gl gp row KK grb gpb X (i + 1) i W → YieldAt Fence.wide (n - 1) Tryz.prog l #[rwV (row i), .int .i64 0] W fun e W' =>
      (e = .returned (.bool true) ∧ VsAt pg gd gl gp row KK grb gpb X i i W' ∧ BackAt pg gd gl gp row i) ∨ (e = .returned (.bool false) ∧ Jx W'))
    (W : World) (h0 : VsAt pg gd gl gp row KK grb gpb X (k + 1) k W) :
    CallsIn Fence.wide n Tryz.prog 61 #[.func (.yield l) #[] #[], .pointer (some ⟨grb, 0, none⟩), .pointer (some ⟨gpb, 0, none⟩)] W fun e W' => (∃ v, e = .returned v) ∧ ((X 0 W' ∧ LzAt pg KK W' gd gl gp) ∨ Jx W') := by
  have H0 := Lib.hid h0
  have HX := Lib.hid hX
  have HY := Lib.hid hY
  clear h0 hX hY
  refine callsIn_of_wp Tryz.func61 rfl trivial ?_ rfl
  simp only [Tryz.ntmps61, List.size_toArray, List.length_cons, List.length_nil, Nat.reduceAdd, Nat.reduceSub, Array.replicate_succ, Array.replicate_zero, List.push_toArray, List.append_toArray, List.nil_append, List.cons_append]
  gi_wp2_with fail
  gi_loopw [7] (fun c wr => ∃ m : Nat, m ≤ k ∧ c = .int .i64 m ∧ VsAt pg gd gl gp row KK grb gpb X (k - m + 1) (k - m) wr) (fun c _ => k - (intOf c).toNat)
  case atStart => exact ⟨0, by omega, rfl, H0.out⟩
  case round =>
    obtain ⟨m, hm, rfl, hV⟩ := hrel
    clear H0
    obtain ⟨i, hi⟩ : ∃ i, i = k - m := ⟨_, rfl⟩
    rw [← hi] at hV
    have hik : i ≤ k := by omega
    obtain ⟨fn, tmps, assign, body, hy, hR⟩ := HY.out i wr hik hV
    have hc := vrow_cells hV.box
    obtain ⟨c0, c1, c2, c3, c4, c5, c6⟩ := hc
    have HI := Lib.hid hi
    clear hV hi
    gi_wp2_with fail
    refine ⟨(fun h => nomatch h), hR.mono ?_⟩
    rintro e w1 (⟨rfl, hV, hB⟩ | ⟨rfl, hJ⟩)
    · have HV := Lib.hid hV
      obtain ⟨d0, d1, d2, d3, d4, d5, d6⟩ := vrow_cells hV.box
      have dp := vptr_cell hV.pb
      have hlr := hV.box.lt
      have hlp := hV.pb.lt
      have hBK := hB KK w1 hV.pool
      clear c0 c1 c2 c3 c4 c5 c6 hR hy hV hB
      rcases Nat.eq_zero_or_pos i with h0 | h0
      · subst h0
        simp only [if_true, Nat.lt_irrefl, decide_false] at hBK
        have HB := Lib.hid ((callsIn_wide (n := n - 1)).2 hBK)
        clear hBK
        gi_wp2_with fail
        refine ⟨trivial, (fun h => nomatch h), HB.out.mono ?_⟩
        rintro e w2 ⟨rfl, hk2, hL2⟩
        have hb3 := (Below.refl w2.heap.size w2).alloc (Nat.le_refl _) (.cells rwZ 37)
        have HX0 := Lib.hid (HX.out 0 _ _ HV.out.x ((hk2.mono hKX).trans (Kept.of_below hb3 (fun b hb => hL2.lt b (hKX b hb)))))
        have HL3 := Lib.hid (hL2.below hb3)
        clear d0 d1 d2 d3 d4 d5 d6 dp hlr hlp hb3 hk2 hL2 HB HV
        gi_wp2_with fail
        refine bodyPost_ret (results_none rfl _ _ _) rfl ?_
        exact ⟨⟨_, rfl⟩, .inl ⟨HX0.out, HL3.out⟩⟩
      · obtain ⟨j, rfl⟩ : ∃ j, i = j + 1 := ⟨i - 1, by omega⟩
        have e0 : ¬ j + 1 = 0 := by omega
        have e1 : decide (0 < j + 1) = true := by rw [decide_eq_true_eq]; omega
        rw [if_neg e0, e1, Nat.add_sub_cancel] at hBK
        have HB := Lib.hid ((callsIn_wide (n := n - 1)).2 hBK)
        clear hBK e0 e1
        gi_wp2_with fail
        refine ⟨trivial, (fun h => nomatch h), HB.out.mono ?_⟩
        rintro e w2 ⟨rfl, hk2, hL2⟩
        have hb3 := (Below.refl w2.heap.size w2).alloc (Nat.le_refl _) (.cells #[str (row j).key, .bool (row j).mark, .int .u64 (row j).tx, .int .u32 (row j).page, .int .u16 (row j).slot, str (row j).value, .int .i64 (row j).pad] 37)
        have hx3 := HX.out _ _ _ HV.out.x ((hk2.mono hKX).trans (Kept.of_below hb3 (fun b hb => hL2.lt b (hKX b hb))))
        have hL3 := hL2.below hb3
        have hbox3 := (HV.out.box.kept hk2 hKr).alloc (.cells #[str (row j).key, .bool (row j).mark, .int .u64 (row j).tx, .int .u32 (row j).page, .int .u16 (row j).slot, str (row j).value, .int .i64 (row j).pad] 37)
        have hpb3 := (HV.out.pb.kept hk2 hKp).alloc (.cells #[str (row j).key, .bool (row j).mark, .int .u64 (row j).tx, .int .u32 (row j).page, .int .u16 (row j).slot, str (row j).value, .int .i64 (row j).pad] 37)
        clear d0 d1 d2 d3 d4 d5 d6 dp hlr hlp hb3 hk2 hL2 HB
        gi_wp2_with (refine wpListIn_store_part rfl _ _ _ rfl grb 0 #[str (row j).key, .bool (row j).mark, .int .u64 (row j).tx, .int .u32 (row j).page, .int .u16 (row j).slot, str (row j).value, .int .i64 (row j).pad] rfl rfl _ _ hbox3 row_size (by show 0 + 7 ≤ 7; omega) (row_one _ _ _ _ _ _ _) ?_)
        have hm1 : k - (m + 1) = j := by have := HI.out; omega
        have hlt : m < k := by have := HI.out; omega
        go_roundw
        case rel =>
          refine ⟨m + 1, by omega, by go_num, ?_⟩
          rw [hm1]
          exact ⟨HX.out _ _ _ hx3 ⟨rfl, rfl, rfl, by simp, fun b hb => heap_setRow_other _ _ _ _ (fun e => hXr (e ▸ hb))⟩, hL3.turns ((Turns.refl KK _).setRow (.inl hKr) _), hbox3.setRow _, hpb3.keep (heap_setRow_other _ _ _ _ hne)⟩
        case measure => simp [intOf]; omega
    · clear c0 c1 c2 c3 c4 c5 c6 hR hy
      gi_wp2_with fail
      refine bodyPost_ret (results_none rfl _ _ _) rfl ?_
      exact ⟨⟨_, rfl⟩, .inr hJ⟩
end Go.Proofs.YtphkggcdfkcidaaGreat

/- The walks of views: what a view sees (the reference's has). -/
namespace Go.Proofs.YtphkggcdfkcidaaGreat
open Go.RowKit

set_option maxHeartbeats 1000000 in
theorem ref24_has (A : Option Addr) (cap : Nat) (xs : List Nat) (n : Nat) (hl : xs.length ≤ 1000000000) (G : Foot) (w : World) (h : Reads G w 1 A xs.length (xs.map fun x : Nat => Value.int .u64 (x : Int))) :
    Calls Tryz.prog 31 #[.slice A xs.length cap, .int .u64 n] w fun e w' => e = .returned (.bool (xs.any (fun x => x == n))) ∧ w' = w := by
  have H := Lib.hid h
  clear h
  go_enter Tryz.func31, Tryz.ntmps31
  go_wp2_with fail
  go_loopw [5] (fun i wr => ∃ k : Nat, k ≤ xs.length ∧ i = .int .i64 k ∧ wr = w ∧ (xs.take k).any (fun x => x == n) = false) (fun i _ => xs.length - (intOf i).toNat)
  case atStart => exact ⟨0, by omega, rfl, rfl, by simp⟩
  case round =>
    obtain ⟨k, hk, rfl, hw, hany⟩ := hrel
    subst hw
    have HAN := Lib.hid hany
    clear hany
    by_cases hlt : k < xs.length
    · obtain ⟨b, o, u, rfl, _, hb, hu, hc⟩ := H.out.at_ hlt
      have hu' : u = .int .u64 (xs[k] : Nat) := by
        have : (xs.map fun x : Nat => Value.int .u64 (x : Int))[k]? = some (.int .u64 (xs[k] : Nat)) := by rw [List.getElem?_map, List.getElem?_eq_getElem hlt]; rfl
        rw [hu] at this; injection this
      rw [hu'] at hc
      have hts := List.take_succ_eq_append_getElem hlt
      have hmem : xs[k] ∈ xs := List.getElem_mem hlt
      obtain ⟨y, hy⟩ : ∃ y, y = xs[k] := ⟨_, rfl⟩
      rw [← hy] at hc hts hmem
      have HTS := Lib.hid hts
      clear hu hu' hts hy
      by_cases hyn : y = n
      · subst hyn
        have HT : Hid (xs.any (fun x => x == y) = true) := Lib.hid (List.any_eq_true.2 ⟨y, hmem, by simp⟩)
        clear hmem
        go_wp2_with fail
        go_ret
        exact ⟨by rw [HT.out]; rfl, rfl⟩
      · have d1 : decide ((y : Int) = (n : Int)) = false := by rw [decide_eq_false_iff_not]; omega
        have d2 : ¬ (y : Int) = (n : Int) := by omega
        have HN := Lib.hid hyn
        clear hmem hyn
        go_wp2_with fail
        go_roundw
        case rel => exact ⟨k + 1, hlt, by go_num, trivial, by rw [HTS.out, List.any_append, HAN.out]; simp [HN.out]⟩
        case measure => simp [intOf]; omega
    · obtain rfl : k = xs.length := by omega
      have HT : Hid (xs.any (fun x => x == n) = false) := Lib.hid (by have := HAN.out; rwa [List.take_length] at this)
      go_wp2_with fail
      go_ret
      exact ⟨by rw [HT.out]; rfl, rfl⟩

set_option maxHeartbeats 1000000 in
theorem slices_index64 (A : Option Addr) (cap : Nat) (xs : List Nat) (n : Nat) (hl : xs.length ≤ 1000000000) (G : Foot) (w : World) (h : Reads G w 1 A xs.length (xs.map fun x : Nat => Value.int .u64 (x : Int))) :
    Calls Tryz.prog 102 #[.slice A xs.length cap, .int .u64 n] w fun e w' => ∃ k : Int, e = .returned (.int .i64 k) ∧ decide (0 ≤ k) = (xs.any (fun x => x == n)) ∧ -1 ≤ k ∧ k ≤ 1000000000 ∧ w' = w := by
  have H := Lib.hid h
  clear h
  go_enter Tryz.func102, Tryz.ntmps102
  go_wp2_with fail
  go_loopw [8] (fun i wr => ∃ k : Nat, k ≤ xs.length ∧ i = .int .i64 k ∧ wr = w ∧ (xs.take k).any (fun x => x == n) = false) (fun i _ => xs.length - (intOf i).toNat)
  case atStart => exact ⟨0, by omega, rfl, rfl, by simp⟩
  case round =>
    obtain ⟨k, hk, rfl, hw, hany⟩ := hrel
    subst hw
    have HAN := Lib.hid hany
    clear hany
    by_cases hlt : k < xs.length
    · obtain ⟨b, o, u, rfl, _, hb, hu, hc⟩ := H.out.at_ hlt
      have hu' : u = .int .u64 (xs[k] : Nat) := by
        have : (xs.map fun x : Nat => Value.int .u64 (x : Int))[k]? = some (.int .u64 (xs[k] : Nat)) := by rw [List.getElem?_map, List.getElem?_eq_getElem hlt]; rfl
        rw [hu] at this; injection this
      rw [hu'] at hc
      have hts := List.take_succ_eq_append_getElem hlt
      have hmem : xs[k] ∈ xs := List.getElem_mem hlt
      obtain ⟨y, hy⟩ : ∃ y, y = xs[k] := ⟨_, rfl⟩
      rw [← hy] at hc hts hmem
      have HTS := Lib.hid hts
      clear hu hu' hts hy
      by_cases hyn : y = n
      · subst hyn
        have HT : Hid (xs.any (fun x => x == y) = true) := Lib.hid (List.any_eq_true.2 ⟨y, hmem, by simp⟩)
        clear hmem
        go_wp2_with fail
        go_ret
        exact ⟨_, rfl, by rw [HT.out]; simp, by omega, by omega, rfl⟩
      · have d1 : decide ((y : Int) = (n : Int)) = false := by rw [decide_eq_false_iff_not]; omega
        have d2 : ¬ (y : Int) = (n : Int) := by omega
        have d3 : decide ((n : Int) = (y : Int)) = false := by rw [decide_eq_false_iff_not]; omega
        have d4 : ¬ (n : Int) = (y : Int) := by omega
        have HN := Lib.hid hyn
        clear hmem hyn
        go_wp2_with fail
        go_roundw
        case rel => exact ⟨k + 1, hlt, by go_num, trivial, by rw [HTS.out, List.any_append, HAN.out]; simp [HN.out]⟩
        case measure => simp [intOf]; omega
    · obtain rfl : k = xs.length := by omega
      have HT : Hid (xs.any (fun x => x == n) = false) := Lib.hid (by have := HAN.out; rwa [List.take_length] at this)
      go_wp2_with fail
      go_ret
      exact ⟨_, rfl, by rw [HT.out]; simp, by omega, by omega, rfl⟩
set_option maxHeartbeats 1000000 in
theorem slices_contains64 (A : Option Addr) (cap : Nat) (xs : List Nat) (n : Nat) (hl : xs.length ≤ 1000000000) (G : Foot) (w : World) (h : Reads G w 1 A xs.length (xs.map fun x : Nat => Value.int .u64 (x : Int))) :
    Calls Tryz.prog 62 #[.slice A xs.length cap, .int .u64 n] w fun e w' => e = .returned (.bool (xs.any (fun x => x == n))) ∧ w' = w := by
  have H := Lib.hid (slices_index64 A cap xs n hl G w h)
  clear h
  go_enter Tryz.func62, Tryz.ntmps62
  go_wp2_with fail
  refine H.out.mono ?_
  rintro e w' ⟨k, rfl, hk, h1, h2, rfl⟩
  have HK := Lib.hid hk
  clear hk
  go_wp2_with fail
  go_ret
  exact ⟨by rw [← HK.out]; rfl, rfl⟩

/-- What a view sees: its own number, the next one, those that went on. -/
def Sp.sees (own next : Nat) (xs : List Nat) (tx : Nat) : Bool := !(tx == 0) && (tx == own || (decide (tx < next) && !xs.any (fun x => x == tx)))
abbrev viewV (own next : Nat) (A : Option Addr) (n c : Nat) : Value := .agg #[.int .u64 own, .int .u64 next, .slice A n c]
/-- The view's list. -/
abbrev U64s (G : Foot) (w : World) (A : Option Addr) (xs : List Nat) : Prop := Reads G w 1 A xs.length (xs.map fun x : Nat => Value.int .u64 (x : Int))

set_option maxRecDepth 100000 in
set_option maxHeartbeats 2000000 in
theorem view_sees (own next : Nat) (A : Option Addr) (cap : Nat) (xs : List Nat) (tx : Nat) (hl : xs.length ≤ 1000000000) (G : Foot) (w : World) (h : U64s G w A xs) :
    Calls Tryz.prog 30 #[viewV own next A xs.length cap, .int .u64 tx] w fun e w' => e = .returned (.bool (Sp.sees own next xs tx)) ∧ Below w.heap.size w w' := by
  have HC := Lib.hid fun (W : World) (hW : U64s G W A xs) => slices_contains64 A cap xs tx hl G W hW
  have H := Lib.hid h
  clear h
  by_cases h0 : tx = 0
  · subst h0
    go_enter Tryz.func30, Tryz.ntmps30
    go_wp2_with fail
    go_ret
    exact ⟨rfl, (Below.refl _ _).alloc (Nat.le_refl _) _⟩
  · have d0 : ((tx : Int) == 0) = false := by simp; omega
    have d0' : decide ((tx : Int) = 0) = false := by rw [decide_eq_false_iff_not]; omega
    have e0 : (tx == 0) = false := by simpa using h0
    by_cases h1 : tx = own
    · have hs : Sp.sees own next xs tx = true := by unfold Sp.sees; rw [e0]; simp [h1]
      rw [hs]
      subst h1
      clear hs e0 h0
      go_enter Tryz.func30, Tryz.ntmps30
      go_wp2_with fail
      go_ret
      exact ⟨rfl, (Below.refl _ _).alloc (Nat.le_refl _) _⟩
    · have d1 : ((tx : Int) == (own : Int)) = false := by simp; omega
      have d1' : decide ((tx : Int) = (own : Int)) = false := by rw [decide_eq_false_iff_not]; omega
      have e1 : (tx == own) = false := by simpa using h1
      by_cases h2 : tx < next
      · have d2 : decide (tx < next) = true := by rw [decide_eq_true_eq]; omega
        have hs : Sp.sees own next xs tx = !xs.any (fun x => x == tx) := by unfold Sp.sees; rw [e0, e1]; simp [h2]
        rw [hs]
        clear hs e0 e1 h0 h1 h2
        go_enter Tryz.func30, Tryz.ntmps30
        go_wp2_with fail
        refine (HC.out _ (H.out.below ((Below.refl w.heap.size w).alloc (Nat.le_refl _) _))).mono ?_
        rintro e w' ⟨rfl, rfl⟩
        go_wp2_with fail
        go_ret
        exact ⟨rfl, (Below.refl _ _).alloc (Nat.le_refl _) _⟩
      · have d2 : decide (tx < next) = false := by rw [decide_eq_false_iff_not]; omega
        have hs : Sp.sees own next xs tx = false := by unfold Sp.sees; rw [e0, e1]; simp [h2]
        rw [hs]
        clear hs e0 e1 h0 h1 h2
        go_enter Tryz.func30, Tryz.ntmps30
        go_wp2_with fail
        go_ret
        exact ⟨rfl, (Below.refl _ _).alloc (Nat.le_refl _) _⟩

set_option maxRecDepth 100000 in
set_option maxHeartbeats 2000000 in
theorem ref24_sees (own next : Nat) (A : Option Addr) (cap : Nat) (xs : List Nat) (tx : Nat) (hl : xs.length ≤ 1000000000) (G : Foot) (w : World) (h : U64s G w A xs) :
    Calls Tryz.prog 15 #[viewV own next A xs.length cap, .int .u64 tx] w fun e w' => e = .returned (.bool (Sp.sees own next xs tx)) ∧ Below w.heap.size w w' := by
  have HC := Lib.hid fun (W : World) (hW : U64s G W A xs) => ref24_has A cap xs tx hl G W hW
  have H := Lib.hid h
  clear h
  by_cases h0 : tx = 0
  · subst h0
    go_enter Tryz.func15, Tryz.ntmps15
    go_wp2_with fail
    go_ret
    exact ⟨rfl, (Below.refl _ _).alloc (Nat.le_refl _) _⟩
  · have d0 : ((tx : Int) == 0) = false := by simp; omega
    have d0' : decide ((tx : Int) = 0) = false := by rw [decide_eq_false_iff_not]; omega
    have e0 : (tx == 0) = false := by simpa using h0
    by_cases h1 : tx = own
    · have hs : Sp.sees own next xs tx = true := by unfold Sp.sees; rw [e0]; simp [h1]
      rw [hs]
      subst h1
      clear hs e0 h0
      go_enter Tryz.func15, Tryz.ntmps15
      go_wp2_with fail
      go_ret
      exact ⟨rfl, (Below.refl _ _).alloc (Nat.le_refl _) _⟩
    · have d1 : ((tx : Int) == (own : Int)) = false := by simp; omega
      have d1' : decide ((tx : Int) = (own : Int)) = false := by rw [decide_eq_false_iff_not]; omega
      have e1 : (tx == own) = false := by simpa using h1
      by_cases h2 : tx < next
      · have d2 : decide (tx < next) = true := by rw [decide_eq_true_eq]; omega
        have hs : Sp.sees own next xs tx = !xs.any (fun x => x == tx) := by unfold Sp.sees; rw [e0, e1]; simp [h2]
        rw [hs]
        clear hs e0 e1 h0 h1 h2
        go_enter Tryz.func15, Tryz.ntmps15
        go_wp2_with fail
        refine (HC.out _ (H.out.below ((Below.refl w.heap.size w).alloc (Nat.le_refl _) _))).mono ?_
        rintro e w' ⟨rfl, rfl⟩
        go_wp2_with fail
        go_ret
        exact ⟨rfl, (Below.refl _ _).alloc (Nat.le_refl _) _⟩
      · have d2 : decide (tx < next) = false := by rw [decide_eq_false_iff_not]; omega
        have hs : Sp.sees own next xs tx = false := by unfold Sp.sees; rw [e0, e1]; simp [h2]
        rw [hs]
        clear hs e0 e1 h0 h1 h2
        go_enter Tryz.func15, Tryz.ntmps15
        go_wp2_with fail
        go_ret
        exact ⟨rfl, (Below.refl _ _).alloc (Nat.le_refl _) _⟩

end Go.Proofs.YtphkggcdfkcidaaGreat

/- The walk of package past: See: what a view sees of a row. -/
namespace Go.Proofs.YtphkggcdfkcidaaGreat
open Go.RowKit Go.Conc

/-- Which version is seen, from the i-th on. -/
def Sp.seeAt (row : Nat → Sp.Rw) (sees : Nat → Bool) : Nat → Option Sp.Rw
  | 0 => if sees (row 0).tx then (if (row 0).mark then none else some (row 0)) else none
  | i + 1 => if sees (row (i + 1)).tx then (if (row (i + 1)).mark then none else some (row (i + 1))) else Sp.seeAt row sees i
theorem Sp.seeAt_at (row : Nat → Sp.Rw) (sees : Nat → Bool) (i : Nat) (h : sees (row i).tx = true) : Sp.seeAt row sees i = if (row i).mark then none else some (row i) := by
  cases i <;> simp [Sp.seeAt, h]
theorem Sp.seeAt_skip (row : Nat → Sp.Rw) (sees : Nat → Bool) (i : Nat) : ∀ k, i ≤ k → (∀ m, i + 1 ≤ m → m ≤ k → sees (row m).tx = false) → Sp.seeAt row sees k = Sp.seeAt row sees i
  | 0, h, _ => by obtain rfl : i = 0 := by omega
                  rfl
  | k + 1, h, hs => by
    by_cases e : i = k + 1
    · rw [e]
    · rw [show Sp.seeAt row sees (k + 1) = Sp.seeAt row sees k by simp [Sp.seeAt, hs (k + 1) (by omega) (Nat.le_refl _)]]
      exact Sp.seeAt_skip row sees i k (by omega) (fun m h1 h2 => hs m h1 (by omega))
theorem Sp.seeAt_none (row : Nat → Sp.Rw) (sees : Nat → Bool) (k : Nat) (hs : ∀ m, 0 ≤ m → m ≤ k → sees (row m).tx = false) : Sp.seeAt row sees k = none := by
  rw [Sp.seeAt_skip row sees 0 k (by omega) (fun m _ h2 => hs m (by omega) h2)]
  simp [Sp.seeAt, hs 0 (by omega) (by omega)]
def Sp.orZ : Option Sp.Rw → Array Value
  | some r => (rwCs r).toArray
  | none => rwZ

theorem results_cell3 {fn : Func} {p q r : Tmp} {t1 t2 t3 : TypeId} (h : fn.results = #[.cell p t1, .cell q t2, .cell r t3]) (tmps : Array Value) (P : Program) (w : World) :
    (results fn tmps).run P w =
      ((asAddr (tmps.getD p undef)).run P w).andThen fun a w₁ => ((loadVar t1 a).run P w₁).andThen fun x w₂ =>
      ((asAddr (tmps.getD q undef)).run P w₂).andThen fun b w₃ => ((loadVar t2 b).run P w₃).andThen fun y w₄ =>
      ((asAddr (tmps.getD r undef)).run P w₄).andThen fun c w₅ => ((loadVar t3 c).run P w₅).andThen fun z w₆ => .ok (.tuple #[x, y, z]) w₆ := by
  simp only [results, h]
  simp [Sem.run_bind, Result.andThen]

/-- The statement 'for .. := range seq': its record is laid, and the function is called. -/
theorem loop_enter {P : Program} {n : Nat} {g : Operand} {ps : Array Tmp} {assign body : Code} {Q : Exit → Act → World → Prop} {a : Act} {w : World} {gf : Nat} {lb : Array Value}
    (hg : a.eval g = .func (.func gf) #[] lb) (eg : ∀ args w, (callFunc gf args).run P w = .ok (.enter gf args) w)
    (h : ∀ (fn : FuncId) (rec : LoopState → Option Code → Loop), (rec = fun st pe => { state := st, pending := pe, fn, tmps := a.tmps, params := ps, assign, body, defers := w.heap.size }) →
      CallsIn Fence.wide (n - 1) P gf (#[.func (.yield (w.heap.size + 1)) #[] #[]] ++ lb) ((w.alloc (.deferred (some []))).alloc (.loop (rec .ready none)))
        (rangePost Fence.wide n P (w.heap.size + 1) Q { a with defers := { target := .collected w.heap.size, args := #[] } :: a.defers })) :
    (Code.rangeFunc g ps assign body).wpIn Fence.wide n P Q a w := by
  refine wpIn_rangeFunc ?_
  intro fn _
  obtain ⟨W1, hW1⟩ : ∃ W1, (w.alloc (.deferred (some []))).alloc (.loop { state := .ready, pending := none, fn, tmps := a.tmps, params := ps, assign, body, defers := w.heap.size }) = W1 := ⟨_, rfl⟩
  refine ⟨w.heap.size + 1, [{ target := .collected w.heap.size, args := #[] }], W1, { target := .fn (.func gf) lb, args := #[.func (.yield (w.heap.size + 1)) #[] #[]] }, W1, gf,
    #[.func (.yield (w.heap.size + 1)) #[] #[]] ++ lb, W1, ?_, ?_, fun _ _ => trivial, ?_, (fun h => nomatch h), ?_⟩
  · rw [← hW1]; exact run_enterLoop_outer _ _ _ _ _
  · simp only [resolve, hg]
    simp [go_sem]
  · simp [invoke, go_sem, eg]
  · rw [← hW1]; exact h fn _ rfl

/-- What See has between two rounds: none of the versions from j on was seen. -/
structure SeeX (row : Nat → Sp.Rw) (sees : Nat → Bool) (k : Nat) (K : Foot) (w : World) (own next : Nat) (A : Option Addr) (cap : Nat) (xs : List Nat) (g5 g6 g7 g8 D l : Nat) (rec : LoopState → Option Code → Loop) (j : Nat) (W : World) : Prop where
  un : ∀ i, j ≤ i → i ≤ k → sees (row i).tx = false
  v : Blk W g5 59 #[.int .u64 own, .int .u64 next, .slice A xs.length cap]
  ls : U64s K W A xs
  r6 : Blk W g6 37 rwZ
  r7 : Blk W g7 4 #[.bool false]
  r8 : Blk W g8 38 #[.int .i64 0]
  L : W.heap[l]? = some (.loop (rec .ready none))
  D_ : W.heap[D]? = some (.deferred (some []))
  kept : Kept K w W
/-- See's own blocks. -/
def SeeF (K : Foot) (g5 g6 g7 g8 D l : Nat) : Foot := fun b => K b ∨ b = g5 ∨ b = g6 ∨ b = g7 ∨ b = g8 ∨ b = D ∨ b = l
theorem SeeX.keep {row : Nat → Sp.Rw} {sees : Nat → Bool} {k : Nat} {K : Foot} {w : World} {own next : Nat} {A : Option Addr} {cap : Nat} {xs : List Nat} {g5 g6 g7 g8 D l : Nat} {rec : LoopState → Option Code → Loop} {j : Nat} {W W' : World}
    (h : SeeX row sees k K w own next A cap xs g5 g6 g7 g8 D l rec j W) (hk : Kept (SeeF K g5 g6 g7 g8 D l) W W') : SeeX row sees k K w own next A cap xs g5 g6 g7 g8 D l rec j W' :=
  ⟨h.un, h.v.kept hk (.inr (.inl rfl)), h.ls.keep hk.size (fun b hb => hk.block b (.inl hb)), h.r6.kept hk (.inr (.inr (.inl rfl))), h.r7.kept hk (.inr (.inr (.inr (.inl rfl)))), h.r8.kept hk (.inr (.inr (.inr (.inr (.inl rfl))))),
    (hk.block l (.inr (.inr (.inr (.inr (.inr (.inr rfl))))))).trans h.L, (hk.block D (.inr (.inr (.inr (.inr (.inr (.inl rfl))))))).trans h.D_, h.kept.trans (hk.mono fun _ hb => .inl hb)⟩
/-- What a round leaves that ends See. -/
structure SeeJ (pg : Nat → Sp.Pg) (gd gl gp : Nat) (res : Option Sp.Rw) (K : Foot) (w : World) (g5 g6 g7 g8 D l : Nat) (rec : LoopState → Option Code → Loop) (W : World) : Prop where
  r6 : Blk W g6 37 (Sp.orZ res)
  r7 : Blk W g7 4 #[.bool res.isSome]
  r8 : Blk W g8 38 #[.int .i64 0]
  L : W.heap[l]? = some (.loop (rec .done (some .ret)))
  D_ : W.heap[D]? = some (.deferred (some []))
  kept : Kept K w W
  pool : LzAt pg (SeeF K g5 g6 g7 g8 D l) W gd gl gp

theorem versions_any (gp : Nat) (r : Sp.Rw) (w : World) : Calls Tryz.prog 29 #[ptr gp, rwV r] w fun e w' => e = .returned (.func (.func 61) #[] #[ptr (w.heap.size + 1), ptr w.heap.size]) ∧ w' = (w.alloc (.cells #[ptr gp] 43)).alloc (.cells (rwCs r).toArray 37) := by
  go_enter Tryz.func29, Tryz.ntmps29
  go_wp2_with fail
  go_ret
  exact ⟨rfl, rfl⟩

/-- Five blocks that were made one behind the other. -/
theorem alloc5 (w : World) (t1 t2 t3 t4 t5 : TypeId) (c1 c2 c3 c4 c5 : Array Value) :
    Blk (((((w.alloc (.cells c1 t1)).alloc (.cells c2 t2)).alloc (.cells c3 t3)).alloc (.cells c4 t4)).alloc (.cells c5 t5)) w.heap.size t1 c1 ∧ Blk (((((w.alloc (.cells c1 t1)).alloc (.cells c2 t2)).alloc (.cells c3 t3)).alloc (.cells c4 t4)).alloc (.cells c5 t5)) (w.heap.size + 1) t2 c2 ∧
    Blk (((((w.alloc (.cells c1 t1)).alloc (.cells c2 t2)).alloc (.cells c3 t3)).alloc (.cells c4 t4)).alloc (.cells c5 t5)) (w.heap.size + 1 + 1) t3 c3 ∧ Blk (((((w.alloc (.cells c1 t1)).alloc (.cells c2 t2)).alloc (.cells c3 t3)).alloc (.cells c4 t4)).alloc (.cells c5 t5)) (w.heap.size + 1 + 1 + 1) t4 c4 ∧
    Blk (((((w.alloc (.cells c1 t1)).alloc (.cells c2 t2)).alloc (.cells c3 t3)).alloc (.cells c4 t4)).alloc (.cells c5 t5)) (w.heap.size + 1 + 1 + 1 + 1) t5 c5 ∧ Below w.heap.size w (((((w.alloc (.cells c1 t1)).alloc (.cells c2 t2)).alloc (.cells c3 t3)).alloc (.cells c4 t4)).alloc (.cells c5 t5)) := by
  obtain ⟨h1, h2, h3, h4, hb⟩ := alloc4 w t1 t2 t3 t4 c1 c2 c3 c4
  have h5 := Blk.new ((((w.alloc (.cells c1 t1)).alloc (.cells c2 t2)).alloc (.cells c3 t3)).alloc (.cells c4 t4)) t5 c5
  rw [World.size_alloc, World.size_alloc, World.size_alloc, World.size_alloc] at h5
  exact ⟨h1.alloc _, h2.alloc _, h3.alloc _, h4.alloc _, h5, hb.alloc hb.size _⟩

theorem orZ_size (o : Option Sp.Rw) : (Sp.orZ o).size = 7 := by cases o <;> rfl
theorem see_results {W : World} {g6 g7 g8 : Nat} {cs : Array Value} {b : Bool} {e : Int} {tmps : Array Value} (h6 : Blk W g6 37 cs) (hs : cs.size = 7) (h7 : Blk W g7 4 #[.bool b]) (h8 : Blk W g8 38 #[.int .i64 e])
    (t6 : tmps.getD 6 undef = ptr g6) (t7 : tmps.getD 7 undef = ptr g7) (t8 : tmps.getD 8 undef = ptr g8) : (results Tryz.f14 tmps).run Tryz.prog W = .ok (.tuple #[.agg cs, .bool b, .int .i64 e]) W := by
  have c7 := h7.cell 0
  have c8 := h8.cell 0
  simp only [List.getElem?_toArray, List.getElem?_cons_zero] at c7 c8
  have hl := run_loadVar_row (P := Tryz.prog) W g6 37 37 cs (0, 0) _ h6 Tryz.underlying37 rfl (by rw [hs]; exact row_size)
  rw [results_cell3 rfl, t6, t7, t8]
  have e6 : (asAddr (ptr g6)).run Tryz.prog W = .ok ⟨g6, 0, none⟩ W := by go_simp
  rw [e6]
  simp only [Result.andThen_ok]
  rw [hl]
  simp only [Result.andThen_ok]
  go_simp

set_option maxRecDepth 100000 in
set_option maxHeartbeats 8000000 in
theorem past_see {pg : Nat → Sp.Pg} {K : Foot} {w : World} {gd gl gp : Nat} (h : LzAt pg K w gd gl gp) (row : Nat → Sp.Rw) (k : Nat) (hk : k ≤ 1000) (own next : Nat) (A : Option Addr) (cap : Nat) (xs : List Nat) (hx : xs.length ≤ 1000000000) (hls : U64s K w A xs)
    (hB : ∀ i, i ≤ k → (∀ m, i ≤ m → m ≤ k → Sp.sees own next xs (row m).tx = false) → BackAt pg gd gl gp row i) :
    Calls Tryz.prog 14 #[ptr gp, rwV (row k), viewV own next A xs.length cap] w fun e w' => e = .returned (.tuple #[.agg (Sp.orZ (Sp.seeAt row (Sp.sees own next xs) k)), .bool (Sp.seeAt row (Sp.sees own next xs) k).isSome, .int .i64 0]) ∧ Kept K w w' ∧ LzAt pg K w' gd gl gp := by
  have HB := Lib.hid hB
  have HL := Lib.hid h
  have HLS := Lib.hid hls
  have HVA := Lib.hid fun (W : World) => versions_any gp (row k) W
  clear h hls hB
  refine (callsIn_wide (n := 5)).1 ?_
  refine callsIn_of_wp_marks Tryz.func14 rfl trivial ?_ rfl
  rw [wpIn_wide]
  simp only [Tryz.ntmps14, List.size_toArray, List.length_cons, List.length_nil, Nat.reduceAdd, Nat.reduceSub, Array.replicate_succ, Array.replicate_zero, List.push_toArray, List.append_toArray, List.nil_append, List.cons_append]
  go_wp2_with fail
  obtain ⟨hb4, hv5, h6, h7, h8, hb1⟩ := alloc5 w 37 59 37 4 38 (rwCs (row k)).toArray #[.int .u64 own, .int .u64 next, .slice A xs.length cap] rwZ #[.bool false] #[.int .i64 0]
  generalize hw1 : World.alloc (World.alloc (World.alloc (World.alloc (World.alloc w _) _) _) _) _ = w1 at hb4 hv5 h6 h7 h8 hb1 ⊢
  clear hw1 hb4
  refine (HVA.out w1).mono ?_
  rintro e w2 ⟨rfl, rfl⟩
  go_wp2_with fail
  rw [← wpIn_wide (n := 5)]
  obtain ⟨hpb, hrb, hb2⟩ := alloc2 w1 43 37 #[ptr gp] (rwCs (row k)).toArray
  have hl1 : w.heap.size + 5 ≤ w1.heap.size := by have := h8.lt; omega
  replace hv5 := hv5.below hb2 hv5.lt
  replace h6 := h6.below hb2 h6.lt
  replace h7 := h7.below hb2 h7.lt
  replace h8 := h8.below hb2 h8.lt
  replace hb1 := hb1.trans (hb2.mono hb1.size)
  generalize hw2 : World.alloc (World.alloc w1 _) _ = w2 at hpb hrb hb1 hv5 h6 h7 h8 ⊢
  clear hw2 hb2
  obtain ⟨g5, hg5⟩ : ∃ g, g = w.heap.size + 1 := ⟨_, rfl⟩
  obtain ⟨g6, hg6⟩ : ∃ g, g = w.heap.size + 1 + 1 := ⟨_, rfl⟩
  obtain ⟨g7, hg7⟩ : ∃ g, g = w.heap.size + 1 + 1 + 1 := ⟨_, rfl⟩
  obtain ⟨g8, hg8⟩ : ∃ g, g = w.heap.size + 1 + 1 + 1 + 1 := ⟨_, rfl⟩
  obtain ⟨gpb, hgpb⟩ : ∃ g, g = w1.heap.size := ⟨_, rfl⟩
  obtain ⟨grb, hgrb⟩ : ∃ g, g = w1.heap.size + 1 := ⟨_, rfl⟩
  rw [← hg8] at h8 ⊢
  rw [← hg7] at h7 ⊢
  rw [← hg6] at h6 ⊢
  rw [← hg5] at hv5 ⊢
  rw [← hgrb] at hrb ⊢
  rw [← hgpb] at hpb ⊢
  have l2 := hrb.lt
  have hKl := HL.out.lt
  refine loop_enter (gf := 61) (lb := #[ptr grb, ptr gpb]) rfl (enters_of Tryz.func61 (by kernel_rfl) rfl) ?_
  intro fn rec hrec
  have HREC := Lib.hid hrec
  clear hrec
  have hb3 := ((Below.refl w2.heap.size w2).alloc (Nat.le_refl _) (.deferred (some []))).alloc (by simp) (.loop (rec .ready none))
  have hLr : ((w2.alloc (.deferred (some []))).alloc (.loop (rec .ready none))).heap[w2.heap.size + 1]? = some (.loop (rec .ready none)) := by
    have := World.alloc_heap_new (w2.alloc (.deferred (some []))) (.loop (rec .ready none)); rwa [World.size_alloc] at this
  have hDr : ((w2.alloc (.deferred (some []))).alloc (.loop (rec .ready none))).heap[w2.heap.size]? = some (.deferred (some [])) := (Below.heap_alloc _ _ _ (by simp)).trans (World.alloc_heap_new w2 _)
  have hls1 : U64s K ((w2.alloc (.deferred (some []))).alloc (.loop (rec .ready none))) A xs := HLS.out.keep (Nat.le_trans hb1.size hb3.size) (fun b hb => (hb3.block b (Nat.lt_of_lt_of_le (hKl b hb) hb1.size)).trans (hb1.block b (hKl b hb)))
  have hb4 := hb1.trans (hb3.mono hb1.size)
  replace hv5 := hv5.below hb3 hv5.lt
  replace h6 := h6.below hb3 h6.lt
  replace h7 := h7.below hb3 h7.lt
  replace h8 := h8.below hb3 h8.lt
  replace hpb := hpb.below hb3 hpb.lt
  replace hrb := hrb.below hb3 hrb.lt
  obtain ⟨D, hD⟩ : ∃ D, D = w2.heap.size := ⟨_, rfl⟩
  obtain ⟨l, hl⟩ : ∃ l, l = w2.heap.size + 1 := ⟨_, rfl⟩
  generalize hw1 : World.alloc (World.alloc w2 _) _ = W1 at hpb hrb hb4 hv5 h6 h7 h8 hLr hDr hls1 ⊢
  rw [← hl] at hLr ⊢
  rw [← hD] at hDr ⊢
  clear hw1 hb3
  have lr := (Array.getElem?_eq_some_iff.1 hLr).1
  have hp1 : LzAt pg (fun b => SeeF K g5 g6 g7 g8 D l b ∨ b = gpb ∨ b = grb) W1 gd gl gp := HL.out.more hb4 (fun b hb => by
    unfold SeeF at hb
    have hsz := hb1.size
    rcases hb with (hb | hb | hb | hb | hb | hb | hb) | hb | hb
    · exact .inl hb
    all_goals exact .inr (by omega))
  have hk1 : Kept K w W1 := Kept.of_below hb4 hKl
  have hgne : gpb ≠ grb := by omega
  have hnr : ¬ SeeF K g5 g6 g7 g8 D l grb := fun h => by
    unfold SeeF at h
    rcases h with h | h | h | h | h | h | h
    · have := hKl _ h; omega
    all_goals omega
  have hdl : D ≠ l := by omega
  have hfar : ∀ b, K b → b ≠ g5 ∧ b ≠ g6 ∧ b ≠ g7 ∧ b ≠ g8 ∧ b ≠ D ∧ b ≠ l := fun b hb => by
    have := hKl b hb
    have hsz := hb1.size
    exact ⟨by omega, by omega, by omega, by omega, by omega, by omega⟩
  have hne : g5 ≠ g6 ∧ g5 ≠ g7 ∧ g5 ≠ g8 ∧ g6 ≠ g7 ∧ g6 ≠ g8 ∧ g7 ≠ g8 ∧ g5 ≠ l ∧ g6 ≠ l ∧ g7 ≠ l ∧ g8 ≠ l ∧ g5 ≠ D ∧ g6 ≠ D ∧ g7 ≠ D ∧ g8 ≠ D ∧ grb ≠ l ∧ gpb ≠ l := by
    have hsz := hb1.size
    refine ⟨?_, ?_, ?_, ?_, ?_, ?_, ?_, ?_, ?_, ?_, ?_, ?_, ?_, ?_, ?_, ?_⟩ <;> omega
  have HNE := Lib.hid hne
  have HFAR := Lib.hid hfar
  clear hg5 hg6 hg7 hg8 hgpb hgrb hD hl l2 hl1 hb1 hb4 lr hne hfar
  show CallsIn _ _ _ _ #[.func (.yield l) #[] #[], ptr grb, ptr gpb] _ _
  refine (versions1 pg gd gl gp row (fun b => SeeF K g5 g6 g7 g8 D l b ∨ b = gpb ∨ b = grb) (SeeF K g5 g6 g7 g8 D l) grb gpb l k 4 hk (fun _ h => .inl h) (.inr (.inr rfl)) (.inr (.inl rfl)) hnr hgne (SeeX row (Sp.sees own next xs) k K w own next A cap xs g5 g6 g7 g8 D l rec) (SeeJ pg gd gl gp (Sp.seeAt row (Sp.sees own next xs) k) K w g5 g6 g7 g8 D l rec) (fun i W W' h hk => h.keep hk) ?hY W1 ⟨⟨fun i h1 h2 => by omega, hv5, hls1, h6, h7, h8, hLr, hDr, hk1⟩, hp1, hrb, hpb⟩).mono ?post
  case hY =>
    clear hv5 hls1 h6 h7 h8 hLr hDr hk1 hp1 hrb hpb
    intro i W hik hV
    obtain ⟨hX, hP, hbox, hpbx⟩ := hV
    have hy := run_yield (P := Tryz.prog) (args := #[rwV (row i), .int .i64 0]) hX.L (by rw [HREC.out]; rfl)
    rw [HREC.out] at hy
    dsimp only at hy
    refine ⟨_, _, _, _, hy, roundIn_of_wpIn trivial ?_⟩
    clear hy
    simp only [List.zip_toArray, List.zip_cons_cons, List.zip_nil_right, List.foldl_toArray, List.foldl_cons, List.foldl_nil, List.setIfInBounds_toArray, List.set_cons_zero, List.set_cons_succ]
    gi_wp2_with (rw [Oper.semAt_eq _ _ _ (fun c h => by cases h)]; go_simp; try go_bits)
    have hb9 := (Below.refl W.heap.size W).alloc (Nat.le_refl _) (.cells (rwCs (row i)).toArray 37)
    have h9 := Blk.new W 37 (rwCs (row i)).toArray
    have hKW := hP.lt
    have hX2 := hX.keep (Kept.of_below hb9 (fun b hb => hKW b (.inl hb)))
    have hP2 := hP.below hb9
    have hbox2 := hbox.below hb9 hbox.lt
    have hpb2 := hpbx.below hb9 hpbx.lt
    have h9l := hKW
    have hlt9 : ∀ b, (SeeF K g5 g6 g7 g8 D l b ∨ b = gpb ∨ b = grb) → b ≠ W.heap.size := fun b hb => Nat.ne_of_lt (hKW b hb)
    generalize hw2 : World.alloc W _ = W2 at h9 hX2 hP2 hbox2 hpb2 ⊢
    obtain ⟨g9, hg9⟩ : ∃ g, g = W.heap.size := ⟨_, rfl⟩
    rw [← hg9] at h9 hlt9 ⊢
    clear hw2 hb9 hKW h9l hg9 hX hP hbox hpbx
    obtain ⟨n56, n57, n58, n67, n68, n78, n5l, n6l, n7l, n8l, n5D, n6D, n7D, n8D, nrl, npl⟩ := HNE.out
    have n9l : g9 ≠ l := fun e => hlt9 l (.inl (.inr (.inr (.inr (.inr (.inr (.inr rfl))))))) e.symm
    have n96 : g9 ≠ g6 := fun e => hlt9 g6 (.inl (.inr (.inr (.inl rfl)))) e.symm
    have n97 : g9 ≠ g7 := fun e => hlt9 g7 (.inl (.inr (.inr (.inr (.inl rfl))))) e.symm
    have n98 : g9 ≠ g8 := fun e => hlt9 g8 (.inl (.inr (.inr (.inr (.inr (.inl rfl)))))) e.symm
    refine ⟨_, run_beginRound hX2.L (by rw [HREC.out]), ?_⟩
    have hll := (Array.getElem?_eq_some_iff.1 hX2.L).1
    have k9 := h9.keep (World.putObj_heap_other (w := W2) (o := .loop { rec .ready none with state := .busy }) n9l)
    have k5 := hX2.v.keep (World.putObj_heap_other (w := W2) (o := .loop { rec .ready none with state := .busy }) n5l)
    have k6 := hX2.r6.keep (World.putObj_heap_other (w := W2) (o := .loop { rec .ready none with state := .busy }) n6l)
    have k7 := hX2.r7.keep (World.putObj_heap_other (w := W2) (o := .loop { rec .ready none with state := .busy }) n7l)
    have k8 := hX2.r8.keep (World.putObj_heap_other (w := W2) (o := .loop { rec .ready none with state := .busy }) n8l)
    have kb := hbox2.keep (World.putObj_heap_other (w := W2) (o := .loop { rec .ready none with state := .busy }) nrl)
    have kp := hpb2.keep (World.putObj_heap_other (w := W2) (o := .loop { rec .ready none with state := .busy }) npl)
    have kD := (World.putObj_heap_other (w := W2) (o := .loop { rec .ready none with state := .busy }) hdl).trans hX2.D_
    have kL : (W2.putObj l (.loop { rec .ready none with state := .busy })).heap[l]? = some (.loop (rec .busy none)) := by rw [World.putObj_heap_same hll, HREC.out]
    have kls : U64s K (W2.putObj l (.loop { rec .ready none with state := .busy })) A xs := hX2.ls.keep (by simp) (fun b hb => World.putObj_heap_other (HFAR.out b hb).2.2.2.2.2)
    have kK : Kept K w (W2.putObj l (.loop { rec .ready none with state := .busy })) := hX2.kept.trans ⟨rfl, rfl, rfl, by simp, fun b hb => World.putObj_heap_other (HFAR.out b hb).2.2.2.2.2⟩
    have kP := hP2.turns (show Turns (fun b => SeeF K g5 g6 g7 g8 D l b ∨ b = gpb ∨ b = grb) (fun b => SeeF K g5 g6 g7 g8 D l b ∨ b = gpb ∨ b = grb) W2 (W2.putObj l (.loop { rec .ready none with state := .busy })) from ⟨rfl, rfl, rfl, by simp, fun b _ hb => World.putObj_heap_other (fun e => hb (.inl (.inr (.inr (.inr (.inr (.inr (.inr e)))))))), fun b hb => .inl hb⟩)
    have HUN := Lib.hid hX2.un
    generalize hw3 : World.putObj W2 l _ = W3 at k9 k5 k6 k7 k8 kb kp kD kL kls kK kP ⊢
    clear hw3 h9 hX2 hP2 hbox2 hpb2 hll
    have K9 := Lib.hid k9
    have K5 := Lib.hid k5
    have K6 := Lib.hid k6
    have K7 := Lib.hid k7
    have K8 := Lib.hid k8
    have KB := Lib.hid kb
    have KP := Lib.hid kp
    have KD := Lib.hid kD
    have KL := Lib.hid kL
    have KLS := Lib.hid kls
    have KK := Lib.hid kK
    have KPO := Lib.hid kP
    clear k9 k5 k6 k7 k8 kb kp kD kL kls kK kP
    obtain ⟨d0, d1, d2, d3, d4, d5, d6⟩ := vrow_cells K9.out
    have v0 := K5.out.cell 0
    have v1 := K5.out.cell 1
    have v2 := K5.out.cell 2
    simp only [List.getElem?_toArray, List.getElem?_cons_succ, List.getElem?_cons_zero] at v0 v1 v2
    have HVS := Lib.hid (CallsIn.inRound l ((callsIn_wide (n := 2)).2 (view_sees own next A cap xs (row i).tx hx K W3 KLS.out)))
    gi_wp2_with (rw [Oper.semAt_eq _ _ _ (fun c h => by cases h)]; go_simp; try go_bits)
    refine ⟨trivial, HVS.out.mono ?_⟩
    rintro e W4 ⟨rfl, hb4⟩
    replace K9 := Lib.hid (K9.out.below hb4 K9.out.lt)
    replace K6 := Lib.hid (K6.out.below hb4 K6.out.lt)
    replace K7 := Lib.hid (K7.out.below hb4 K7.out.lt)
    replace K8 := Lib.hid (K8.out.below hb4 K8.out.lt)
    replace K5 := Lib.hid (K5.out.below hb4 K5.out.lt)
    replace KB := Lib.hid (KB.out.below hb4 KB.out.lt)
    replace KP := Lib.hid (KP.out.below hb4 KP.out.lt)
    replace KL := Lib.hid ((hb4.block l (Array.getElem?_eq_some_iff.1 KL.out).1).trans KL.out)
    replace KD := Lib.hid ((hb4.block D (Array.getElem?_eq_some_iff.1 KD.out).1).trans KD.out)
    replace KK := Lib.hid (KK.out.trans (Kept.of_below hb4 (fun b hb => KPO.out.lt b (.inl (.inl hb)))))
    replace KLS := Lib.hid (KLS.out.below hb4)
    replace KPO := Lib.hid (KPO.out.below hb4)
    clear d0 d1 d2 d3 d4 d5 d6 v0 v1 v2 HVS hb4
    obtain ⟨d0, d1, d2, d3, d4, d5, d6⟩ := vrow_cells K9.out
    cases hs : Sp.sees own next xs (row i).tx with
    | false =>
      have HS := Lib.hid hs
      clear hs
      gi_wp2_with (rw [Oper.semAt_eq _ _ _ (fun c h => by cases h)]; go_simp; try go_bits)
      refine ⟨_, _, run_endRound none KL.out, .inl ⟨rfl, ?_, ?_⟩⟩
      · have e1 : ({ rec .busy none with state := if (none : Option Code).isNone = true then .ready else .done, pending := none } : Loop) = rec .ready none := by rw [HREC.out]; rfl
        rw [e1]
        have hll := (Array.getElem?_eq_some_iff.1 KL.out).1
        refine ⟨⟨fun m h1 h2 => ?_, K5.out.keep (World.putObj_heap_other n5l), KLS.out.keep (by simp) (fun b hb => World.putObj_heap_other (HFAR.out b hb).2.2.2.2.2), K6.out.keep (World.putObj_heap_other n6l), K7.out.keep (World.putObj_heap_other n7l), K8.out.keep (World.putObj_heap_other n8l),
          World.putObj_heap_same hll, (World.putObj_heap_other hdl).trans KD.out, KK.out.trans ⟨rfl, rfl, rfl, by simp, fun b hb => World.putObj_heap_other (HFAR.out b hb).2.2.2.2.2⟩⟩, ?_, KB.out.keep (World.putObj_heap_other nrl), KP.out.keep (World.putObj_heap_other npl)⟩
        · by_cases e : m = i
          · rw [e]; exact HS.out
          · exact HUN.out m (by omega) h2
        · exact KPO.out.turns (show Turns (fun b => SeeF K g5 g6 g7 g8 D l b ∨ b = gpb ∨ b = grb) (fun b => SeeF K g5 g6 g7 g8 D l b ∨ b = gpb ∨ b = grb) W4 (W4.putObj l (.loop (rec .ready none))) from ⟨rfl, rfl, rfl, by simp, fun b _ hb => World.putObj_heap_other (fun e => hb (.inl (.inr (.inr (.inr (.inr (.inr (.inr e)))))))), fun b hb => .inl hb⟩)
      · exact HB.out i hik (fun m h1 h2 => by
          by_cases e : m = i
          · rw [e]; exact HS.out
          · exact HUN.out m (by omega) h2)
    | true =>
      have hres : Sp.seeAt row (Sp.sees own next xs) k = if (row i).mark then none else some (row i) := by
        rw [Sp.seeAt_skip row (Sp.sees own next xs) i k hik (fun m h1 h2 => HUN.out m h1 h2), Sp.seeAt_at row (Sp.sees own next xs) i hs]
      have HRS := Lib.hid hres
      clear hs hres
      cases hm : (row i).mark with
      | true =>
        rw [hm] at d1
        gi_wp2_with (first
          | (refine wpListIn_store_part rfl _ _ _ rfl g6 0 rwZ rfl rfl _ _ K6.out row_size (by show 0 + 7 ≤ 7; omega) (row_one _ _ _ _ _ _ _) ?_
             have q6 : Blk (W4.setRow g6 (partRow rwZ 0 (rwZ).toList)) g6 37 rwZ := K6.out.setRow _
             have q7 := K7.out.keep (heap_setRow_other W4 g6 g7 (partRow rwZ 0 (rwZ).toList) (Ne.symm n67))
             have q8 := K8.out.keep (heap_setRow_other W4 g6 g8 (partRow rwZ 0 (rwZ).toList) (Ne.symm n68))
             have qD := (heap_setRow_other W4 g6 D (partRow rwZ 0 (rwZ).toList) (Ne.symm n6D)).trans KD.out
             have qL := (heap_setRow_other W4 g6 l (partRow rwZ 0 (rwZ).toList) (Ne.symm n6l)).trans KL.out
             have qK : Kept K w (W4.setRow g6 (partRow rwZ 0 (rwZ).toList)) := KK.out.trans ⟨rfl, rfl, rfl, by simp, fun b hb => heap_setRow_other _ _ _ _ (HFAR.out b hb).2.1⟩
             have qP := KPO.out.turns ((Turns.refl (fun b => SeeF K g5 g6 g7 g8 D l b ∨ b = gpb ∨ b = grb) W4).setRow (.inl (.inl (.inr (.inr (.inl rfl))))) (partRow rwZ 0 (rwZ).toList))
             generalize hw5 : World.setRow W4 g6 _ = W5 at q6 q7 q8 qD qL qK qP ⊢
             have c7 := q7.cell 0
             have f7 := q7.frozen 0
             have c8 := q8.cell 0
             have f8 := q8.frozen 0
             simp only [List.getElem?_toArray, List.getElem?_cons_zero] at c7 c8
             clear hw5 d0 d1 d2 d3 d4 d5 d6)
          | (rw [Oper.semAt_eq _ _ _ (fun c h => by cases h)]; go_simp; try go_bits))
        have z6 := (q6.far (p := ⟨g7, 0, none⟩) n67 (.bool false)).far (p := ⟨g8, 0, none⟩) n68 (.int .i64 0)
        have z7 := (q7.set_ 0 (.bool false)).far (p := ⟨g8, 0, none⟩) n78 (.int .i64 0)
        have z8 := (q8.far (p := ⟨g7, 0, none⟩) (Ne.symm n78) (.bool false)).set_ 0 (.int .i64 0)
        have zD := (Below.heap_setCell (W5.setCell ⟨g7, 0, none⟩ (.bool false)) ⟨g8, 0, none⟩ (.int .i64 0) D (Ne.symm n8D)).trans ((Below.heap_setCell W5 ⟨g7, 0, none⟩ (.bool false) D (Ne.symm n7D)).trans qD)
        have zL := (Below.heap_setCell (W5.setCell ⟨g7, 0, none⟩ (.bool false)) ⟨g8, 0, none⟩ (.int .i64 0) l (Ne.symm n8l)).trans ((Below.heap_setCell W5 ⟨g7, 0, none⟩ (.bool false) l (Ne.symm n7l)).trans qL)
        have zK : Kept K w ((W5.setCell ⟨g7, 0, none⟩ (.bool false)).setCell ⟨g8, 0, none⟩ (.int .i64 0)) := qK.trans ⟨rfl, rfl, rfl, by simp [World.setCell], fun b hb => (Below.heap_setCell _ _ _ b (HFAR.out b hb).2.2.2.1).trans (Below.heap_setCell _ _ _ b (HFAR.out b hb).2.2.1)⟩
        have zP := qP.turns (((Turns.refl (fun b => SeeF K g5 g6 g7 g8 D l b ∨ b = gpb ∨ b = grb) W5).setCell (p := ⟨g7, 0, none⟩) (.inl (.inl (.inr (.inr (.inr (.inl rfl)))))) (.bool false)).setCell (p := ⟨g8, 0, none⟩) (.inl (.inl (.inr (.inr (.inr (.inr (.inl rfl))))))) (.int .i64 0))
        refine ⟨_, _, run_endRound (some .ret) zL, .inr ⟨rfl, ?_⟩⟩
        have e1 : ({ rec .busy none with state := if (some Code.ret).isNone = true then .ready else .done, pending := some .ret } : Loop) = rec .done (some .ret) := by rw [HREC.out]; rfl
        rw [e1]
        have hll := (Array.getElem?_eq_some_iff.1 zL).1
        have hr2 : Sp.seeAt row (Sp.sees own next xs) k = none := by rw [HRS.out, hm]; rfl
        rw [hr2]
        refine ⟨z6.keep (World.putObj_heap_other n6l), z7.keep (World.putObj_heap_other n7l), z8.keep (World.putObj_heap_other n8l), World.putObj_heap_same hll, (World.putObj_heap_other hdl).trans zD, zK.trans ⟨rfl, rfl, rfl, by simp, fun b hb => World.putObj_heap_other (HFAR.out b hb).2.2.2.2.2⟩, ?_⟩
        exact (zP.turns (show Turns (fun b => SeeF K g5 g6 g7 g8 D l b ∨ b = gpb ∨ b = grb) (fun b => SeeF K g5 g6 g7 g8 D l b ∨ b = gpb ∨ b = grb) ((W5.setCell ⟨g7, 0, none⟩ (.bool false)).setCell ⟨g8, 0, none⟩ (.int .i64 0)) (((W5.setCell ⟨g7, 0, none⟩ (.bool false)).setCell ⟨g8, 0, none⟩ (.int .i64 0)).putObj l (.loop (rec .done (some .ret)))) from ⟨rfl, rfl, rfl, by simp, fun b _ hb => World.putObj_heap_other (fun e => hb (.inl (.inr (.inr (.inr (.inr (.inr (.inr e)))))))), fun b hb => .inl hb⟩)).mono (fun b hb => .inl hb)
      | false =>
        rw [hm] at d1
        gi_wp2_with (first
          | (refine wpListIn_store_part rfl _ _ _ rfl g6 0 #[str (row i).key, .bool false, .int .u64 (row i).tx, .int .u32 (row i).page, .int .u16 (row i).slot, str (row i).value, .int .i64 (row i).pad] rfl rfl _ _ K6.out row_size (by show 0 + 7 ≤ 7; omega) (row_one _ _ _ _ _ _ _) ?_
             have q6 : Blk (W4.setRow g6 (partRow rwZ 0 (#[str (row i).key, .bool false, .int .u64 (row i).tx, .int .u32 (row i).page, .int .u16 (row i).slot, str (row i).value, .int .i64 (row i).pad]).toList)) g6 37 #[str (row i).key, .bool false, .int .u64 (row i).tx, .int .u32 (row i).page, .int .u16 (row i).slot, str (row i).value, .int .i64 (row i).pad] := K6.out.setRow _
             have q7 := K7.out.keep (heap_setRow_other W4 g6 g7 (partRow rwZ 0 (#[str (row i).key, .bool false, .int .u64 (row i).tx, .int .u32 (row i).page, .int .u16 (row i).slot, str (row i).value, .int .i64 (row i).pad]).toList) (Ne.symm n67))
             have q8 := K8.out.keep (heap_setRow_other W4 g6 g8 (partRow rwZ 0 (#[str (row i).key, .bool false, .int .u64 (row i).tx, .int .u32 (row i).page, .int .u16 (row i).slot, str (row i).value, .int .i64 (row i).pad]).toList) (Ne.symm n68))
             have qD := (heap_setRow_other W4 g6 D (partRow rwZ 0 (#[str (row i).key, .bool false, .int .u64 (row i).tx, .int .u32 (row i).page, .int .u16 (row i).slot, str (row i).value, .int .i64 (row i).pad]).toList) (Ne.symm n6D)).trans KD.out
             have qL := (heap_setRow_other W4 g6 l (partRow rwZ 0 (#[str (row i).key, .bool false, .int .u64 (row i).tx, .int .u32 (row i).page, .int .u16 (row i).slot, str (row i).value, .int .i64 (row i).pad]).toList) (Ne.symm n6l)).trans KL.out
             have qK : Kept K w (W4.setRow g6 (partRow rwZ 0 (#[str (row i).key, .bool false, .int .u64 (row i).tx, .int .u32 (row i).page, .int .u16 (row i).slot, str (row i).value, .int .i64 (row i).pad]).toList)) := KK.out.trans ⟨rfl, rfl, rfl, by simp, fun b hb => heap_setRow_other _ _ _ _ (HFAR.out b hb).2.1⟩
             have qP := KPO.out.turns ((Turns.refl (fun b => SeeF K g5 g6 g7 g8 D l b ∨ b = gpb ∨ b = grb) W4).setRow (.inl (.inl (.inr (.inr (.inl rfl))))) (partRow rwZ 0 (#[str (row i).key, .bool false, .int .u64 (row i).tx, .int .u32 (row i).page, .int .u16 (row i).slot, str (row i).value, .int .i64 (row i).pad]).toList))
             generalize hw5 : World.setRow W4 g6 _ = W5 at q6 q7 q8 qD qL qK qP ⊢
             have c7 := q7.cell 0
             have f7 := q7.frozen 0
             have c8 := q8.cell 0
             have f8 := q8.frozen 0
             simp only [List.getElem?_toArray, List.getElem?_cons_zero] at c7 c8
             clear hw5 d0 d1 d2 d3 d4 d5 d6)
          | (rw [Oper.semAt_eq _ _ _ (fun c h => by cases h)]; go_simp; try go_bits))
        have z6 := (q6.far (p := ⟨g7, 0, none⟩) n67 (.bool true)).far (p := ⟨g8, 0, none⟩) n68 (.int .i64 0)
        have z7 := (q7.set_ 0 (.bool true)).far (p := ⟨g8, 0, none⟩) n78 (.int .i64 0)
        have z8 := (q8.far (p := ⟨g7, 0, none⟩) (Ne.symm n78) (.bool true)).set_ 0 (.int .i64 0)
        have zD := (Below.heap_setCell (W5.setCell ⟨g7, 0, none⟩ (.bool true)) ⟨g8, 0, none⟩ (.int .i64 0) D (Ne.symm n8D)).trans ((Below.heap_setCell W5 ⟨g7, 0, none⟩ (.bool true) D (Ne.symm n7D)).trans qD)
        have zL := (Below.heap_setCell (W5.setCell ⟨g7, 0, none⟩ (.bool true)) ⟨g8, 0, none⟩ (.int .i64 0) l (Ne.symm n8l)).trans ((Below.heap_setCell W5 ⟨g7, 0, none⟩ (.bool true) l (Ne.symm n7l)).trans qL)
        have zK : Kept K w ((W5.setCell ⟨g7, 0, none⟩ (.bool true)).setCell ⟨g8, 0, none⟩ (.int .i64 0)) := qK.trans ⟨rfl, rfl, rfl, by simp [World.setCell], fun b hb => (Below.heap_setCell _ _ _ b (HFAR.out b hb).2.2.2.1).trans (Below.heap_setCell _ _ _ b (HFAR.out b hb).2.2.1)⟩
        have zP := qP.turns (((Turns.refl (fun b => SeeF K g5 g6 g7 g8 D l b ∨ b = gpb ∨ b = grb) W5).setCell (p := ⟨g7, 0, none⟩) (.inl (.inl (.inr (.inr (.inr (.inl rfl)))))) (.bool true)).setCell (p := ⟨g8, 0, none⟩) (.inl (.inl (.inr (.inr (.inr (.inr (.inl rfl))))))) (.int .i64 0))
        refine ⟨_, _, run_endRound (some .ret) zL, .inr ⟨rfl, ?_⟩⟩
        have e1 : ({ rec .busy none with state := if (some Code.ret).isNone = true then .ready else .done, pending := some .ret } : Loop) = rec .done (some .ret) := by rw [HREC.out]; rfl
        rw [e1]
        have hll := (Array.getElem?_eq_some_iff.1 zL).1
        have hr2 : Sp.seeAt row (Sp.sees own next xs) k = some (row i) := by rw [HRS.out, hm]; rfl
        rw [hr2]
        have hcs : (rwCs (row i)).toArray = #[str (row i).key, .bool false, .int .u64 (row i).tx, .int .u32 (row i).page, .int .u16 (row i).slot, str (row i).value, .int .i64 (row i).pad] := by show #[str (row i).key, .bool (row i).mark, .int .u64 (row i).tx, .int .u32 (row i).page, .int .u16 (row i).slot, str (row i).value, .int .i64 (row i).pad] = _; rw [hm]
        refine ⟨(show Blk _ g6 37 (rwCs (row i)).toArray by rw [hcs]; exact z6.keep (World.putObj_heap_other n6l)), z7.keep (World.putObj_heap_other n7l), z8.keep (World.putObj_heap_other n8l), World.putObj_heap_same hll, (World.putObj_heap_other hdl).trans zD, zK.trans ⟨rfl, rfl, rfl, by simp, fun b hb => World.putObj_heap_other (HFAR.out b hb).2.2.2.2.2⟩, ?_⟩
        exact (zP.turns (show Turns (fun b => SeeF K g5 g6 g7 g8 D l b ∨ b = gpb ∨ b = grb) (fun b => SeeF K g5 g6 g7 g8 D l b ∨ b = gpb ∨ b = grb) ((W5.setCell ⟨g7, 0, none⟩ (.bool true)).setCell ⟨g8, 0, none⟩ (.int .i64 0)) (((W5.setCell ⟨g7, 0, none⟩ (.bool true)).setCell ⟨g8, 0, none⟩ (.int .i64 0)).putObj l (.loop (rec .done (some .ret)))) from ⟨rfl, rfl, rfl, by simp, fun b _ hb => World.putObj_heap_other (fun e => hb (.inl (.inr (.inr (.inr (.inr (.inr (.inr e)))))))), fun b hb => .inl hb⟩)).mono (fun b hb => .inl hb)
  case post =>
    clear hv5 hls1 h6 h7 h8 hLr hDr hk1 hp1 hrb hpb
    rintro e W' ⟨⟨v, rfl⟩, (⟨hX, hP⟩ | hJ)⟩
    · have hn : (rec .ready none).pending = none := by rw [HREC.out]
      have he := run_endLoop (P := Tryz.prog) hX.L (by rw [HREC.out]; simp)
      refine ⟨_, _, he, ?_⟩
      obtain ⟨n56, n57, n58, n67, n68, n78, n5l, n6l, n7l, n8l, n5D, n6D, n7D, n8D, nrl, npl⟩ := HNE.out
      have hres := Sp.seeAt_none row (Sp.sees own next xs) k (fun m h1 h2 => hX.un m h1 h2)
      have k6 := hX.r6.keep (World.putObj_heap_other (w := W') (o := .loop { rec .ready none with state := .exhausted }) n6l)
      have k7 := hX.r7.keep (World.putObj_heap_other (w := W') (o := .loop { rec .ready none with state := .exhausted }) n7l)
      have k8 := hX.r8.keep (World.putObj_heap_other (w := W') (o := .loop { rec .ready none with state := .exhausted }) n8l)
      have kD := (World.putObj_heap_other (w := W') (o := .loop { rec .ready none with state := .exhausted }) hdl).trans hX.D_
      have kK : Kept K w (W'.putObj l (.loop { rec .ready none with state := .exhausted })) := hX.kept.trans ⟨rfl, rfl, rfl, by simp, fun b hb => World.putObj_heap_other (HFAR.out b hb).2.2.2.2.2⟩
      have kP : LzAt pg (fun b => SeeF K g5 g6 g7 g8 D l b ∨ b = gpb ∨ b = grb) (W'.putObj l (.loop { rec .ready none with state := .exhausted })) gd gl gp := hP.turns (K' := fun b => SeeF K g5 g6 g7 g8 D l b ∨ b = gpb ∨ b = grb) ⟨rfl, rfl, rfl, by simp, fun b _ hb => World.putObj_heap_other (fun e => hb (.inl (.inr (.inr (.inr (.inr (.inr (.inr e)))))))), fun b hb => .inl hb⟩
      generalize hw4 : World.putObj W' l _ = W4 at k6 k7 k8 kD kK kP ⊢
      rw [hn]
      clear he hn hw4 hX hP
      have K6 := Lib.hid k6
      have K7 := Lib.hid k7
      have K8 := Lib.hid k8
      have HRS := Lib.hid hres
      clear k6 k7 k8 hres
      go_wp2_with (refine wpList_store_part rfl _ _ _ rfl g6 0 rwZ rfl rfl _ _ K6.out row_size (by show 0 + 7 ≤ 7; omega) (row_one _ _ _ _ _ _ _) ?_
                   have q6 : Blk (W4.setRow g6 (partRow rwZ 0 (rwZ).toList)) g6 37 rwZ := K6.out.setRow _
                   have q7 := K7.out.keep (heap_setRow_other W4 g6 g7 (partRow rwZ 0 (rwZ).toList) (Ne.symm n67))
                   have q8 := K8.out.keep (heap_setRow_other W4 g6 g8 (partRow rwZ 0 (rwZ).toList) (Ne.symm n68))
                   have qD := (heap_setRow_other W4 g6 D (partRow rwZ 0 (rwZ).toList) (Ne.symm n6D)).trans kD
                   have qK : Kept K w (W4.setRow g6 (partRow rwZ 0 (rwZ).toList)) := kK.trans ⟨rfl, rfl, rfl, by simp, fun b hb => heap_setRow_other _ _ _ _ (HFAR.out b hb).2.1⟩
                   have qP := kP.turns ((Turns.refl (fun b => SeeF K g5 g6 g7 g8 D l b ∨ b = gpb ∨ b = grb) W4).setRow (.inl (.inl (.inr (.inr (.inl rfl))))) (partRow rwZ 0 (rwZ).toList))
                   generalize hw5 : World.setRow W4 g6 _ = W5 at q6 q7 q8 qD qK qP ⊢
                   have c7 := q7.cell 0
                   have f7 := q7.frozen 0
                   have c8 := q8.cell 0
                   have f8 := q8.frozen 0
                   simp only [List.getElem?_toArray, List.getElem?_cons_zero] at c7 c8
                   clear hw5 K6 K7 K8 kD kK kP)
      have Z6 := Lib.hid ((q6.far (p := ⟨g7, 0, none⟩) n67 (.bool false)).far (p := ⟨g8, 0, none⟩) n68 (.int .i64 0))
      have Z7 := Lib.hid ((q7.set_ 0 (.bool false)).far (p := ⟨g8, 0, none⟩) n78 (.int .i64 0))
      have Z8 := Lib.hid ((q8.far (p := ⟨g7, 0, none⟩) (Ne.symm n78) (.bool false)).set_ 0 (.int .i64 0))
      have HD := Lib.hid ((Below.heap_setCell (W5.setCell ⟨g7, 0, none⟩ (.bool false)) ⟨g8, 0, none⟩ (.int .i64 0) D (Ne.symm n8D)).trans ((Below.heap_setCell W5 ⟨g7, 0, none⟩ (.bool false) D (Ne.symm n7D)).trans qD))
      have HK : Hid (Kept K w ((W5.setCell ⟨g7, 0, none⟩ (.bool false)).setCell ⟨g8, 0, none⟩ (.int .i64 0))) := Lib.hid (qK.trans ⟨rfl, rfl, rfl, by simp [World.setCell], fun b hb => (Below.heap_setCell _ _ _ b (HFAR.out b hb).2.2.2.1).trans (Below.heap_setCell _ _ _ b (HFAR.out b hb).2.2.1)⟩)
      have HP := Lib.hid (qP.turns (((Turns.refl (fun b => SeeF K g5 g6 g7 g8 D l b ∨ b = gpb ∨ b = grb) W5).setCell (p := ⟨g7, 0, none⟩) (.inl (.inl (.inr (.inr (.inr (.inl rfl)))))) (.bool false)).setCell (p := ⟨g8, 0, none⟩) (.inl (.inl (.inr (.inr (.inr (.inr (.inl rfl))))))) (.int .i64 0)))
      refine ⟨by simp, .inl ⟨D, _, rfl, run_takeDeferred HD.out, ?_⟩⟩
      have z6 := Z6.out.keep (World.putObj_heap_other (w := ((W5.setCell ⟨g7, 0, none⟩ (.bool false)).setCell ⟨g8, 0, none⟩ (.int .i64 0))) (o := .deferred none) n6D)
      have z7 := Z7.out.keep (World.putObj_heap_other (w := ((W5.setCell ⟨g7, 0, none⟩ (.bool false)).setCell ⟨g8, 0, none⟩ (.int .i64 0))) (o := .deferred none) n7D)
      have z8 := Z8.out.keep (World.putObj_heap_other (w := ((W5.setCell ⟨g7, 0, none⟩ (.bool false)).setCell ⟨g8, 0, none⟩ (.int .i64 0))) (o := .deferred none) n8D)
      refine ⟨_, see_results z6 rfl z7 z8 rfl rfl rfl, by rw [HRS.out]; rfl, HK.out.trans ⟨rfl, rfl, rfl, by simp, fun b hb => World.putObj_heap_other (HFAR.out b hb).2.2.2.2.1⟩, ?_⟩
      exact (HP.out.turns (show Turns (fun b => SeeF K g5 g6 g7 g8 D l b ∨ b = gpb ∨ b = grb) (fun b => SeeF K g5 g6 g7 g8 D l b ∨ b = gpb ∨ b = grb) ((W5.setCell ⟨g7, 0, none⟩ (.bool false)).setCell ⟨g8, 0, none⟩ (.int .i64 0)) (((W5.setCell ⟨g7, 0, none⟩ (.bool false)).setCell ⟨g8, 0, none⟩ (.int .i64 0)).putObj D (.deferred none)) from ⟨rfl, rfl, rfl, by simp, fun b _ hb => World.putObj_heap_other (fun e => hb (.inl (.inr (.inr (.inr (.inr (.inr (.inl e)))))))), fun b hb => .inl hb⟩)).mono (fun b hb => .inl (.inl hb))
    · have hn : (rec .done (some .ret)).pending = some .ret := by rw [HREC.out]
      have he := run_endLoop (P := Tryz.prog) hJ.L (by rw [HREC.out]; simp)
      refine ⟨_, _, he, ?_⟩
      obtain ⟨n56, n57, n58, n67, n68, n78, n5l, n6l, n7l, n8l, n5D, n6D, n7D, n8D, nrl, npl⟩ := HNE.out
      have k6 := hJ.r6.keep (World.putObj_heap_other (w := W') (o := .loop { rec .done (some .ret) with state := .exhausted }) n6l)
      have k7 := hJ.r7.keep (World.putObj_heap_other (w := W') (o := .loop { rec .done (some .ret) with state := .exhausted }) n7l)
      have k8 := hJ.r8.keep (World.putObj_heap_other (w := W') (o := .loop { rec .done (some .ret) with state := .exhausted }) n8l)
      have kD := (World.putObj_heap_other (w := W') (o := .loop { rec .done (some .ret) with state := .exhausted }) hdl).trans hJ.D_
      have kK : Kept K w (W'.putObj l (.loop { rec .done (some .ret) with state := .exhausted })) := hJ.kept.trans ⟨rfl, rfl, rfl, by simp, fun b hb => World.putObj_heap_other (HFAR.out b hb).2.2.2.2.2⟩
      have kP : LzAt pg (SeeF K g5 g6 g7 g8 D l) (W'.putObj l (.loop { rec .done (some .ret) with state := .exhausted })) gd gl gp := hJ.pool.turns (K' := SeeF K g5 g6 g7 g8 D l) ⟨rfl, rfl, rfl, by simp, fun b _ hb => World.putObj_heap_other (fun e => hb (.inr (.inr (.inr (.inr (.inr (.inr e))))))), fun b hb => .inl hb⟩
      generalize hw4 : World.putObj W' l _ = W4 at k6 k7 k8 kD kK kP ⊢
      rw [hn]
      clear he hn hw4 hJ
      show Code.wpIn _ _ _ _ _ _ _
      rw [wpIn_wide]
      have K6 := Lib.hid k6
      have K7 := Lib.hid k7
      have K8 := Lib.hid k8
      clear k6 k7 k8
      have Z6 := K6
      have Z7 := K7
      have Z8 := K8
      have HD := Lib.hid kD
      have HK := Lib.hid kK
      have HP := Lib.hid kP
      clear kD kK kP
      go_wp2_with fail
      refine ⟨by simp, .inl ⟨D, _, rfl, run_takeDeferred HD.out, ?_⟩⟩
      have z6 := Z6.out.keep (World.putObj_heap_other (w := W4) (o := .deferred none) n6D)
      have z7 := Z7.out.keep (World.putObj_heap_other (w := W4) (o := .deferred none) n7D)
      have z8 := Z8.out.keep (World.putObj_heap_other (w := W4) (o := .deferred none) n8D)
      refine ⟨_, see_results z6 (orZ_size _) z7 z8 rfl rfl rfl, rfl, HK.out.trans ⟨rfl, rfl, rfl, by simp, fun b hb => World.putObj_heap_other (HFAR.out b hb).2.2.2.2.1⟩, ?_⟩
      exact (HP.out.turns (show Turns (SeeF K g5 g6 g7 g8 D l) (SeeF K g5 g6 g7 g8 D l) W4 (W4.putObj D (.deferred none)) from ⟨rfl, rfl, rfl, by simp, fun b _ hb => World.putObj_heap_other (fun e => hb (.inr (.inr (.inr (.inr (.inr (.inl e))))))), fun b hb => .inl hb⟩)).mono (fun b hb => .inl hb)
end Go.Proofs.YtphkggcdfkcidaaGreat
