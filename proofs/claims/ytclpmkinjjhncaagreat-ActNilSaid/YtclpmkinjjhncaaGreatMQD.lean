/- The walks of package log: sector, writes, Force. -/
import Derived.Test.YtclpmkinjjhncaaGreatMQC
import Derived.Test.YtclpmkinjjhncaaGreatMQA
import Derived.Test.YtclpmkinjjhncaaGreatMQB
import Derived.BigQuiet
import Derived.Defers

namespace Go.Proofs.YtclpmkinjjhncaaGreat
open Go.RowKit

theorem arr_info : (Tryz.prog.info? 165).map (fun i => (i.zero, i.size, i.bytes)) = some (some (.agg (Array.replicate 128 (.int .u8 0))), 128, 128) := by kernel_rfl

/-- 'copy(b[k:], s)' onto a block of bytes of whatever type. -/
theorem run_copy_patchT (w : World) (h k n c t : Nat) (l p : Sp.Bs) (ty : TypeId) (hB : Blk w h t (bcs l).toArray) (hk : k + p.length ≤ l.length) (hn : p.length ≤ n) :
    (Builtin.copy_ #[102, 9] ty #[.slice (some ⟨h, k, none⟩) n c, str p]).run Tryz.prog w = .ok (goInt p.length) (w.setRow h (bcs (Sp.patch l k p)).toArray) := by
  have := Lib.run_copy_row_string (P := Tryz.prog) w 102 9 ty 5 h k n c ⟨p.toArray⟩ (bcs l).toArray t Tryz.underlying102 u8_info hB (by simpa using hn) (by simpa using hk)
  rw [this]
  simp [byteCells_bcs, Sp.patch, bcs, List.map_take, List.map_drop]
/-- 'copy(b[k:], s)' of a slice that reads as bytes. -/
theorem run_copy_bytesT (w : World) (h k n c t : Nat) (l p : Sp.Bs) (ty : TypeId) (a : Addr) (sc : Nat) (hB : Blk w h t (bcs l).toArray) (hsrc : ∀ j v, (bcs p)[j]? = some v → w.cell? (a.add j) = some v) (hk : k + p.length ≤ l.length) (hn : p.length ≤ n) :
    (Builtin.copy_ #[102, 102] ty #[.slice (some ⟨h, k, none⟩) n c, .slice (some a) p.length sc]).run Tryz.prog w = .ok (goInt p.length) (w.setRow h (bcs (Sp.patch l k p)).toArray) := by
  have := run_copy_row (P := Tryz.prog) w 102 102 ty 5 h k n c a p.length sc (bcs l).toArray t (bcs p) Tryz.underlying102 u8_info hB (by rw [bcs_length]; exact (Nat.min_eq_left hn).symm) hsrc (by simpa using hk) (fun v hv => by
    simp only [bcs, List.mem_map] at hv
    obtain ⟨b, _, rfl⟩ := hv
    rfl)
  rw [this]
  simp [Sp.patch, bcs, List.map_take, List.map_drop]

theorem patch_two {H P : Sp.Bs} (hH : H.length = 18) : Sp.patch (Sp.patch (Sp.zeros 128) 0 H) 18 P = H ++ P ++ Sp.zeros (110 - P.length) := by
  unfold Sp.patch
  have e1 : (Sp.zeros 128).drop (0 + H.length) = Sp.zeros 110 := by simp [Sp.zeros, hH]
  rw [List.take_zero, List.nil_append, e1, ← hH, List.take_left, ← List.drop_drop, List.drop_left]
  congr 1
  exact List.drop_replicate

section
variable {F D : Foot} {w : World} {gl gd : Nat} {l : Sp.Lg} {d : Sp.Dk}
set_option maxRecDepth 100000 in
set_option maxHeartbeats 2000000 in
theorem log_sector (h : IsLg F w gl gd l) (k : Nat) (hk : k < 4611686018427387904) (hat : l.at_ < 1000000) :
    Calls Tryz.prog 130 #[ptr gl, .int .u64 k] w fun e w' => e = .returned (.int .i64 (l.sector k)) ∧ Below w.heap.size w w' := by
  obtain ⟨h1, bv, sv, h3, h4, h5, h6⟩ := h
  obtain ⟨c0, c1, c2, c3, c4, c5, c6, c7, c8, c9⟩ := h3.lg
  have hn4 := h1.n4k
  have hn1 := h1.n4
  have hm := Nat.mod_lt (k / 110) (show 0 < l.n by omega)
  have e1 : IntKind.u64.wrap ((l.n : Nat) : Int) = (l.n : Nat) := by rw [IntKind.wrap_u64]; omega
  obtain ⟨m, hmm⟩ : ∃ m, m = k / 110 % l.n := ⟨_, rfl⟩
  have e2 : ((k : Int) / 110) % (l.n : Nat) = (m : Int) := by rw [hmm]; simp
  have e3 : IntKind.i64.wrap (m : Int) = (m : Int) := IntWalk.i64_in _ (by omega)
  have e5 : IntKind.i64.wrap ((l.at_ : Int) + m) = (l.at_ : Int) + m := IntWalk.i64_in _ (by omega)
  have e4 : Hid ((l.at_ : Int) + (m : Int) = (l.sector k : Nat)) := by show _ = _; unfold Sp.Lg.sector; omega
  clear hmm hm
  have hn0 : ¬ (l.n : Int) = 0 := by omega
  clear c0 c3 c4 c5 c6 c7 c8 c9 h3 h4 h5 h6
  go_enter Tryz.func130, Tryz.ntmps130
  go_wp2_with fail
  go_quiet (fail)
  go_wp2_with fail
  go_ret
  rw [e4.out]
  exact ⟨rfl, ((Turns.refl noFoot w).drewN _).below_none⟩

set_option maxRecDepth 100000 in
set_option maxHeartbeats 2000000 in
theorem log_writes (h : IsLg F w gl gd l) (hd : IsDk D w gd d) (hfu : d.fuse ≠ 0) (hlo : d.loose.length ≤ 1000000) (hfit : l.at_ + l.n ≤ d.sure.length) (hn : l.next < 4611686018427387904)
    {k : Nat} (hk : Sp.bg l.first ≤ k) (hk2 : k < l.next) :
    Calls Tryz.prog 72 #[ptr gl, .int .u64 k] w fun e w' => ∃ D', e = .returned (.int .i64 0) ∧ IsDk D' w' gd (d.put (l.sector k) (l.sec k)) ∧ Turns D D' w w' := by
  obtain ⟨i0, hi, hz0, hz1, hz2⟩ := info_parts arr_info
  have HI := Lib.hid h
  obtain ⟨h1, bv, sv, h3, h4, h5, h6⟩ := h
  have hlen := h1.len
  have hfew := hd.wf.few
  have hn4 := h1.n4k
  have hroom := h1.room
  have hff := h1.ff
  have hfn := h1.fn
  have hbl := Sp.bg_le l.first
  obtain ⟨a, ha⟩ : ∃ a, a = k - Sp.bg l.first := ⟨_, rfl⟩
  have hal : a < l.bytes.length := by omega
  obtain ⟨q, hq⟩ : ∃ q, q = Nat.min (a + 110) l.bytes.length := ⟨_, rfl⟩
  have hqa : a < q ∧ q ≤ a + 110 ∧ q ≤ l.bytes.length := by
    have := Nat.min_def (n := a + 110) (m := l.bytes.length)
    have e : q = if a + 110 ≤ l.bytes.length then a + 110 else l.bytes.length := by rw [hq]; exact this
    split at e <;> omega
  have hmin : min ((a : Int) + 110) (l.bytes.length : Nat) = (q : Nat) := by
    have e : q = min (a + 110) l.bytes.length := hq
    omega
  have hpart : l.part k = (l.bytes.drop a).take (q - a) := by
    unfold Sp.Lg.part
    rw [← ha]
    rcases Nat.le_total (a + 110) l.bytes.length with h | h
    · have e : q = a + 110 := by have e : q = min (a + 110) l.bytes.length := hq; omega
      rw [e, Nat.add_sub_cancel_left]
    · have e : q = l.bytes.length := by have e : q = min (a + 110) l.bytes.length := hq; omega
      rw [List.take_of_length_le (by simp; omega), List.take_of_length_le (by simp; omega)]
  have hpl : (l.part k).length = q - a := by rw [hpart]; simp; omega
  have hrd : ∀ j, j < l.bytes.length → bv.ownBlock ≠ none := fun j hj e => by
    rcases h4.2 with ⟨_, h0⟩ | ⟨g, c, cur, h0, _⟩
    · omega
    · rw [h0] at e; cases e
  obtain ⟨gb, cb, rfl⟩ := own_form' h4 (by omega)
  have hcap : l.bytes.length ≤ cb ∧ cb ≤ maxLen := by
    rcases h4.2 with ⟨_, h0⟩ | ⟨g, c, cur, h0, _, _, e1, e2, _⟩
    · omega
    · injection h0 with a1 a2 a3
      subst a3
      exact ⟨e1, e2⟩
  have hcells := h4.cells (g := gb) rfl
  have hFgb : F gb := (h6 gb).2 (.inr (.inl rfl))
  have hFgl : F gl := (h6 gl).2 (.inl rfl)
  have hgbl : gb < w.heap.size := HI.out.in_ gb hFgb
  have hgll : gl < w.heap.size := h3.lt
  have HB := Lib.hid fun (W : World) => log_begin l.first (by omega) W
  have HK := Lib.hid fun (W : World) => word_put k 8 W (by omega) (by omega) (by omega) (by omega)
  have HL := Lib.hid fun (W : World) => word_put l.life 8 W (by omega) (by omega) h1.life64 h1.life64
  have HP := Lib.hid fun (W : World) => word_put (q - a) 2 W (by omega) (by omega) (by omega) (by omega)
  have hd0 : IntKind.u64.wrap ((k : Int) - (Sp.bg l.first : Nat)) = (a : Nat) := by rw [IntKind.wrap_u64]; omega
  have hd1 : IntKind.i64.wrap ((a : Nat) : Int) = (a : Nat) := IntWalk.i64_in _ (by omega)
  have hd2 : IntKind.i64.wrap ((a : Int) + 110) = (a : Int) + 110 := IntWalk.i64_in _ (by omega)
  have hd3 : IntKind.u64.wrap ((q - a : Nat) : Int) = ((q - a : Nat) : Int) := by rw [IntKind.wrap_u64]; omega
  have HPART := Lib.hid hpart
  have HPL := Lib.hid hpl
  have HLEN := Lib.hid hlen
  have hkl : k < 4611686018427387904 := by omega
  clear ha hq hpart hpl hlen
  obtain ⟨c0, c1, c2, c3, c4, c5, c6, c7, c8, c9⟩ := h3.lg
  have H3 := Lib.hid h3
  have hb0 := Blk.new w 165 (bcs (Sp.zeros 128)).toArray
  have hbz : (bcs (Sp.zeros 128)).toArray = Array.replicate 128 (.int .u8 0) := by kernel_rfl
  clear c0 c1 c2 c5 c7 c8 c9 h3
  go_enter Tryz.func72, Tryz.ntmps72
  go_wp2_with fail
  have hZ : Tryz.zeroCells165 = (bcs (Sp.zeros 128)).toArray := by rw [hbz]; kernel_rfl
  rw [hZ]
  have hbw := (Below.refl w.heap.size w).alloc (Nat.le_refl _) (.cells (bcs (Sp.zeros 128)).toArray 165)
  have hg5l : w.heap.size ≤ w.heap.size := Nat.le_refl _
  obtain ⟨w1, hw1⟩ : ∃ w1, w1 = w.alloc (.cells (bcs (Sp.zeros 128)).toArray 165) := ⟨_, rfl⟩
  rw [← hw1] at hb0 hbw ⊢
  obtain ⟨g5, hg5⟩ : ∃ g, g = w.heap.size := ⟨_, rfl⟩
  rw [← hg5] at hb0 ⊢
  have hg5l : w.heap.size ≤ g5 := by omega
  clear hw1 hg5 hZ hbz
  refine (HB.out _).mono ?_
  rintro e w2 ⟨rfl, hw⟩
  subst w2
  have c4 := (H3.out.below hbw hgll).lg.2.2.2.2.1
  go_wp2_with fail
  have hS := Lib.hid (show w1.drew.cell? ⟨gl, 4, none⟩ = some (.slice (some ⟨gb, 0, none⟩) l.bytes.length cb) from c4)
  clear c3 c4 c6
  have i1 : (a : Int) ≤ (q : Nat) := by omega
  have hcne : ¬ cb = a := by omega
  have i2 : (q : Int) ≤ (cb : Nat) := by omega
  have i3 : (0 : Int) ≤ (a : Nat) := by omega
  refine R_begin (fun W => W.cell? ⟨gl, 4, none⟩ = some (.slice (some ⟨gb, 0, none⟩) l.bytes.length cb)) (fun _ => false) rfl ?_
  refine R_tk 0 22 hS.out ?_
  refine R_tk 1 23 hS.out ?_
  refine R_tk 2 24 hS.out ?_
  refine R_tk 3 25 hS.out ?_
  simp only [List.setIfInBounds_toArray, List.set_cons_zero, List.set_cons_succ]
  refine R_tk 4 26 hS.out ?_
  refine R_tk 5 27 hS.out ?_
  refine R_tk 6 28 hS.out ?_
  refine R_tk 7 29 hS.out ?_
  refine R_tk 8 30 hS.out ?_
  refine R_tk 9 31 hS.out ?_
  refine R_tk 10 32 hS.out ?_
  simp only [List.setIfInBounds_toArray, List.set_cons_zero, List.set_cons_succ]
  refine R_tk 11 33 hS.out ?_
  refine R_tk 12 34 hS.out ?_
  simp only [List.setIfInBounds_toArray, List.set_cons_zero, List.set_cons_succ]
  refine R_tk 13 35 hS.out ?_
  simp only [List.setIfInBounds_toArray, List.set_cons_zero, List.set_cons_succ]
  refine R_tk 14 7 hS.out ?_
  refine R_done (by kernel_rfl) ?_ _
  rename_i K9 hK9
  refine hK9 _ _ ?_
  clear hK9 hS
  clear i1 i2 i3 hcne hmin
  go_wp2_with fail
  refine (HK.out _).mono ?_
  rintro e w2 ⟨rfl, hb2⟩
  replace hb2 : Below w1.heap.size w1 w2 := ⟨hb2.os, hb2.tape, hb2.output, hb2.size, hb2.block⟩
  have hbw2 := hbw.trans (hb2.mono hbw.size)
  have c3 := (H3.out.below hbw2 hgll).lg.2.2.2.1
  go_wp2_with fail
  refine (HL.out _).mono ?_
  rintro e w3 ⟨rfl, hb3⟩
  have hbw3 := hbw2.trans (hb3.mono hbw2.size)
  clear c3
  go_wp2_with fail
  refine (HP.out _).mono ?_
  rintro e w4 ⟨rfl, hb4⟩
  have hbw4 := hbw3.trans (hb4.mono hbw3.size)
  have hb04 : Below w1.heap.size w1 w4 := hb2.trans ((hb3.mono hb2.size).trans (hb4.mono (Nat.le_trans hb2.size hb3.size)))
  have hX4 := hb0.below hb04 hb0.lt
  have hk8 : (Sp.be 8 k).length = 8 := Sp.be_length _ _
  have hl8 : (Sp.be 8 l.life).length = 8 := Sp.be_length _ _
  have hp2 : (Sp.be 2 (q - a)).length = 2 := Sp.be_length _ _
  have HSEC : Hid (Sp.be 8 k ++ Sp.be 8 l.life ++ Sp.be 2 (q - a) ++ l.part k ++ Sp.zeros (110 - (q - a)) = l.sec k) := by
    show _ = _
    rw [Sp.Lg.sec, HPL.out]
  generalize Sp.be 8 k = sk at *
  generalize Sp.be 8 l.life = sl at *
  generalize Sp.be 2 (q - a) = sp at *
  have hz128 : (Sp.zeros 128).length = 128 := by simp [Sp.zeros]
  have hcp1 : Hid (∀ ty, (Builtin.copy_ #[102, 9] ty #[.slice (some ⟨g5, 0, none⟩) 128 128, str (sk ++ sl ++ sp)]).run Tryz.prog w4 = .ok (goInt 18) (w4.setRow g5 (bcs (Sp.patch (Sp.zeros 128) 0 (sk ++ (sl ++ sp)))).toArray)) := by
    intro ty
    rw [List.append_assoc]
    have := run_copy_patchT w4 g5 0 128 128 165 (Sp.zeros 128) (sk ++ (sl ++ sp)) ty hX4 (by simp; omega) (by simp; omega)
    rwa [show (sk ++ (sl ++ sp)).length = 18 by simp; omega] at this
  have hX5 := hX4.setRow (bcs (Sp.patch (Sp.zeros 128) 0 (sk ++ (sl ++ sp)))).toArray
  have hp1 : (Sp.patch (Sp.zeros 128) 0 (sk ++ (sl ++ sp))).length = 128 := by rw [Sp.patch_length (by simp; omega)]; exact hz128
  have hg5gb : gb ≠ g5 := by omega
  have hcp2 := Lib.hid fun ty => run_copy_bytesT (w4.setRow g5 (bcs (Sp.patch (Sp.zeros 128) 0 (sk ++ (sl ++ sp)))).toArray) g5 18 110 110 165 (Sp.patch (Sp.zeros 128) 0 (sk ++ (sl ++ sp))) (l.part k) ty ⟨gb, a, none⟩ (cb - a) hX5 (fun j v hv => by
    have hj : j < (l.part k).length := by have := (List.getElem?_eq_some_iff.1 hv).1; simpa using this
    have e1 : (⟨gb, a, none⟩ : Addr).add j = ⟨gb, a + j, none⟩ := by unfold Addr.add; split <;> simp_all
    have e2 : (⟨gb, 0, none⟩ : Addr).add (a + j) = ⟨gb, a + j, none⟩ := by unfold Addr.add; split <;> simp_all
    rw [e1]
    refine (World.cell?_of_block (w := w) (a := ⟨gb, a + j, none⟩) ?_).trans ?_
    · exact (setRow_other _ _ _ _ hg5gb).trans (hbw4.block gb hgbl)
    · rw [← e2]
      refine hcells (a + j) v ?_
      rw [bcs_get] at hv ⊢
      rw [HPART.out, List.getElem?_take, if_pos (by rw [HPL.out] at hj; exact hj), List.getElem?_drop] at hv
      exact hv) (by rw [HPL.out, hp1]; omega) (by rw [HPL.out]; omega)
  rw [HPL.out] at hcp2
  have hX6 := hX5.setRow (bcs (Sp.patch (Sp.patch (Sp.zeros 128) 0 (sk ++ (sl ++ sp))) 18 (l.part k))).toArray
  have hfin : Sp.patch (Sp.patch (Sp.zeros 128) 0 (sk ++ (sl ++ sp))) 18 (l.part k) = l.sec k := by
    rw [← HSEC.out, patch_two (by simp; omega), HPL.out, ← List.append_assoc sk sl sp]
  have HX6 := Lib.hid hX6
  clear hX4 hX5 hX6
  go_wp2_with (first
    | (with_reducible refine Lib.wpList_copy_run _ rfl (.tmp 56) (.tmp 61) 102 9 rfl _ _ rfl rfl (hcp1.out _) ?_)
    | (with_reducible refine Lib.wpList_copy_run _ rfl (.tmp 63) (.tmp 64) 102 102 rfl _ _ rfl rfl (hcp2.out _) ?_))
  simp only [Act.put]
  rw [hfin] at HX6 ⊢
  obtain ⟨w6, hw6⟩ : ∃ w6, w6 = (w4.setRow g5 (bcs (Sp.patch (Sp.zeros 128) 0 (sk ++ (sl ++ sp)))).toArray).setRow g5 (bcs (l.sec k)).toArray := ⟨_, rfl⟩
  have hk6 : ∀ b, b < w.heap.size → w6.heap[b]? = w.heap[b]? := fun b hb => by
    rw [hw6, setRow_other _ _ _ _ (by omega), setRow_other _ _ _ _ (by omega)]
    exact hbw4.block b hb
  have hbw6 : Below w.heap.size w w6 := by rw [hw6]; exact below_setRow (below_setRow hbw4 hg5l _) hg5l _
  rw [← hw6] at HX6 ⊢
  clear hw6 hfin hcp1 hcp2 hp1 hz128 HSEC hbw4 hb04 hbw3 hbw2 hb2 hb3 hb4 hb0
  have HI6 := Lib.hid (HI.out.below hbw6)
  have HD6 := Lib.hid (hd.below hbw6)
  have hSL := Sp.Lg.sec_length l k
  have c0 := (H3.out.below hbw6 hgll).lg.1
  have hconv := run_bytes_back (P := Tryz.prog) w6.drew 102 9 5 g5 0 128 128 (l.sec k) Tryz.underlying102 Tryz.underlying5 Tryz.underlying9 hSL.symm (fun j hj => by
    rw [Nat.zero_add]
    exact (HX6.out.cell j).trans (by simpa using bcs_at (l.sec k) j hj))
  have hS := Lib.hid (show w6.drew.cell? ⟨gl, 0, none⟩ = some (ptr gd) ∧ (convert 102 9 (.slice (some ⟨g5, 0, none⟩) 128 128)).run Tryz.prog w6.drew = .ok (str (l.sec k)) w6.drew from ⟨c0, hconv⟩)
  have hS7 := Lib.hid fun (W : World) (hb : Below w6.heap.size w6.drew W) => (show W.cell? ⟨gl, 0, none⟩ = some (ptr gd) ∧ (convert 102 9 (.slice (some ⟨g5, 0, none⟩) 128 128)).run Tryz.prog W = .ok (str (l.sec k)) W from
    ⟨(hb.cell (p := ⟨gl, 0, none⟩) (Nat.lt_of_lt_of_le hgll hbw6.size)).trans c0, run_bytes_back (P := Tryz.prog) W 102 9 5 g5 0 128 128 (l.sec k) Tryz.underlying102 Tryz.underlying5 Tryz.underlying9 hSL.symm (fun j hj => by
      rw [Nat.zero_add]
      exact (hb.cell (p := ⟨g5, j, none⟩) HX6.out.lt).trans ((HX6.out.cell j).trans (by simpa using bcs_at (l.sec k) j hj)))⟩)
  have HSE := Lib.hid (log_sector (w := w6.drew) (HI6.out.below (Below.refl w6.heap.size w6).drew) k hkl (by omega))
  have hsl := Sp.Lg.sector_lt h1 k
  clear hconv c0
  refine R_begin (fun W => W.cell? ⟨gl, 0, none⟩ = some (ptr gd) ∧ (convert 102 9 (.slice (some ⟨g5, 0, none⟩) 128 128)).run Tryz.prog W = .ok (str (l.sec k)) W) (fun j => decide (9 ≤ j)) rfl ?_
  refine R_tt 0 66 hS.out ?_
  refine R_tt 1 67 hS.out ?_
  refine R_tt 2 68 hS.out ?_
  refine R_tt 3 69 hS.out ?_
  refine R_tt 4 70 hS.out ?_
  refine R_tt 5 71 hS.out ?_
  refine R_tt 7 73 hS.out ?_
  simp only [List.setIfInBounds_toArray, List.set_cons_zero, List.set_cons_succ]
  refine R_tt 8 74 hS.out ?_
  simp only [List.setIfInBounds_toArray, List.set_cons_zero, List.set_cons_succ]
  refine R_call 6 72 (w' := w6.drew) rfl rfl (by rfl) (by kernel_rfl) ?_ HSE.out ?_
  · go_simp
  rintro e w7 ⟨rfl, hb7⟩
  replace hb7 : Below w6.heap.size w6 w7 := ⟨hb7.os, hb7.tape, hb7.output, hb7.size, hb7.block⟩
  refine ⟨_, rfl, fun _ => hS7.out w7 ⟨hb7.os, hb7.tape, hb7.output, hb7.size, hb7.block⟩, ?_⟩
  simp only [List.setIfInBounds_toArray, List.set_cons_zero, List.set_cons_succ]
  have hbw7 := hbw6.trans (hb7.mono hbw6.size)
  have HWR := Lib.hid (disk_write (w := w7) (HD6.out.below hb7) (l.sector k) (l.sec k) (by omega) hSL hfu hlo)
  clear hS hS7 HSE HI6 HD6 hb7
  refine R_call 9 75 (w' := w7) rfl rfl (by rfl) (by kernel_rfl) ?_ HWR.out ?_
  · go_simp
  rintro e w8 ⟨D', rfl, hD8, ht8⟩
  refine ⟨_, rfl, (fun h => nomatch h), ?_⟩
  simp only [List.setIfInBounds_toArray, List.set_cons_zero, List.set_cons_succ]
  refine R_run 10 4 (v := .int .i64 0) (w' := w8) rfl rfl (by rfl) (by kernel_rfl) (by go_simp) (fun h => nomatch h) ?_
  simp only [List.setIfInBounds_toArray, List.set_cons_zero, List.set_cons_succ]
  refine R_done (by kernel_rfl) ?_ _
  rename_i K9 hK9
  refine hK9 _ _ ?_
  clear hK9
  have ht9 := (Turns.of_below hbw7 D).trans ht8
  have HD8 := Lib.hid hD8
  clear hD8 ht8 HWR
  go_wp2_with fail
  go_ret
  exact ⟨D', rfl, HD8.out, ht9⟩
end
end Go.Proofs.YtclpmkinjjhncaaGreat

/- Plain laws on what twin.Write of many pages leaves on a disk. -/
namespace Go.Proofs.YtclpmkinjjhncaaGreat.Sp

/-- The four sectors of a page that is written among others. -/
theorem lay_four {A B : List (Nat × Bs)} {s : List Bs} {b : Nat} {t : Bs} (ht : t.length = 512) (hb : b + 4 ≤ s.length) (hB : ∀ x ∈ B, x.1 < b ∨ b + 4 ≤ x.1) :
    pageAt (lay (A ++ [(b + 0, (t.drop 0).take 128), (b + 1, (t.drop 128).take 128), (b + 2, (t.drop 256).take 128), (b + 3, (t.drop 384).take 128)] ++ B) s) b = t := by
  generalize hL : lay (A ++ [(b + 0, (t.drop 0).take 128), (b + 1, (t.drop 128).take 128), (b + 2, (t.drop 256).take 128), (b + 3, (t.drop 384).take 128)] ++ B) s = L
  have g0 : L[b + 0]? = some ((t.drop 0).take 128) := by
    rw [← hL]
    have := lay_at A ([(b + 1, (t.drop 128).take 128), (b + 2, (t.drop 256).take 128), (b + 3, (t.drop 384).take 128)] ++ B) s (b + 0) ((t.drop 0).take 128) (by omega) (fun x hx => by
      rcases List.mem_append.1 hx with hx | hx
      · simp at hx; rcases hx with rfl | rfl | rfl <;> simp
      · have := hB x hx; omega)
    simpa using this
  have g1 : L[b + 1]? = some ((t.drop 128).take 128) := by
    rw [← hL]
    have := lay_at (A ++ [(b + 0, (t.drop 0).take 128)]) ([(b + 2, (t.drop 256).take 128), (b + 3, (t.drop 384).take 128)] ++ B) s (b + 1) ((t.drop 128).take 128) (by omega) (fun x hx => by
      rcases List.mem_append.1 hx with hx | hx
      · simp at hx; rcases hx with rfl | rfl <;> simp
      · have := hB x hx; omega)
    simpa using this
  have g2 : L[b + 2]? = some ((t.drop 256).take 128) := by
    rw [← hL]
    have := lay_at (A ++ [(b + 0, (t.drop 0).take 128), (b + 1, (t.drop 128).take 128)]) ([(b + 3, (t.drop 384).take 128)] ++ B) s (b + 2) ((t.drop 256).take 128) (by omega) (fun x hx => by
      rcases List.mem_append.1 hx with hx | hx
      · simp at hx; rw [hx]; simp
      · have := hB x hx; omega)
    simpa using this
  have g3 : L[b + 3]? = some ((t.drop 384).take 128) := by
    rw [← hL]
    have := lay_at (A ++ [(b + 0, (t.drop 0).take 128), (b + 1, (t.drop 128).take 128), (b + 2, (t.drop 256).take 128)]) B s (b + 3) ((t.drop 384).take 128) (by omega) (fun x hx => by have := hB x hx; omega)
    simpa using this
  have hd : (L.drop b).take 4 = [(t.drop 0).take 128, (t.drop 128).take 128, (t.drop 256).take 128, (t.drop 384).take 128] := by
    apply List.ext_getElem?
    intro k
    rw [List.getElem?_take]
    match k with
    | 0 => simpa using g0
    | 1 => simpa using g1
    | 2 => simpa using g2
    | 3 => simpa using g3
    | k + 4 =>
      rw [if_neg (by omega)]
      simp
  unfold pageAt
  rw [hd]
  simp only [List.flatten_cons, List.flatten_nil, List.append_nil, List.drop_zero]
  have e3 : (t.drop 384).take 128 = t.drop 384 := List.take_of_length_le (by simp; omega)
  have e2 : (t.drop 256).take 128 ++ t.drop 384 = t.drop 256 := by
    have := List.take_append_drop 128 (t.drop 256); rwa [List.drop_drop] at this
  have e1 : (t.drop 128).take 128 ++ t.drop 256 = t.drop 128 := by
    have := List.take_append_drop 128 (t.drop 128); rwa [List.drop_drop] at this
  rw [e3, e2, e1, List.take_append_drop]

/-- Pages written: the disk behind it. -/
theorem twin_many (d : Dk) (hlo : d.loose = []) (hf : d.fuse = -1) (at_ base : Nat) (l : List (Nat × Bs)) (hn : (l.map (·.1)).Nodup) (h8 : l.length ≤ 8) (hp : ∀ x ∈ l, x.2.length = 512 ∧ inside d.sure.length at_ base x.1) :
    (d.acts (twinActs at_ base l)).loose = [] ∧ (d.acts (twinActs at_ base l)).fuse = -1 ∧ (d.acts (twinActs at_ base l)).sure.length = d.sure.length ∧
    (∀ x ∈ l, pageAt (d.acts (twinActs at_ base l)).sure (base + x.1 * 4) = x.2) ∧
    ∀ q, (∀ x ∈ l, x.1 ≠ q) → at_ + 33 ≤ base + q * 4 → base + q * 4 + 4 ≤ d.sure.length → pageAt (d.acts (twinActs at_ base l)).sure (base + q * 4) = pageAt d.sure (base + q * 4) := by
  have hview : d.view = d.sure := by simp [Dk.view, hlo, lay]
  have hw : ∃ a c, twinActs at_ base l = (a ++ homesActs base l ++ c) ++ [.sync] ∧ (∀ x ∈ wrs a, x.1 < at_ + 33) ∧ (∀ x ∈ wrs c, x.1 < at_ + 33) := by
    refine ⟨(homesActs (at_ + 1) (areaOf l) ++ [.sync]) ++ [.wr at_ (markBs l), .sync], [.sync, .wr at_ (zeros 128)], by simp [twinActs], fun x hx => ?_, fun x hx => ?_⟩
    · rw [wrs_app, wrs_app] at hx
      simp only [wrs, List.append_nil, List.mem_append, List.mem_singleton] at hx
      rcases hx with hx | rfl
      · obtain ⟨y, hy, j, hj, e⟩ := mem_wrs_homes hx
        have : y.1 < 8 := by
          obtain ⟨i, hi, e⟩ := List.getElem_of_mem hy
          have hi' : i < l.length := by simpa [areaOf] using hi
          have h2 := areaOf_get l i hi'
          rw [List.getElem?_eq_getElem hi, e] at h2
          injection h2 with h2
          rw [h2]; show i < 8; omega
        omega
      · show at_ < at_ + 33; omega
    · simp [wrs] at hx
      rw [hx]; show at_ < at_ + 33; omega
  obtain ⟨a, c, hw, ha, hc⟩ := hw
  have hs := acts_synced d (a ++ homesActs base l ++ c)
  rw [← hw, hview, wrs_app, wrs_app] at hs
  have hlen := acts_sure d (twinActs at_ base l)
  refine ⟨hs.1, acts_fuse d hf _, hlen, fun x hx => ?_, fun q hq h1 h2 => ?_⟩
  · obtain ⟨l1, l2, rfl⟩ := List.append_of_mem hx
    obtain ⟨ht, hi1, hi2⟩ := hp x hx
    rw [hs.2, homesActs_app, wrs_app]
    show pageAt (lay (wrs a ++ (wrs (homesActs base l1) ++ wrs (homeActs base x ++ homesActs base l2)) ++ wrs c) d.sure) _ = _
    rw [wrs_app, wrs_home, range4]
    have hnd : ∀ y ∈ l2, y.1 ≠ x.1 := fun y hy e => by
      rw [List.map_append, List.map_cons] at hn
      have := (List.nodup_cons.1 (List.nodup_append.1 hn).2.1).1
      exact this (List.mem_map.2 ⟨y, hy, e⟩)
    have := lay_four (A := wrs a ++ wrs (homesActs base l1)) (B := wrs (homesActs base l2) ++ wrs c) (s := d.sure) (b := base + x.1 * 4) (t := x.2) ht hi1 (fun y hy => by
      rcases List.mem_append.1 hy with hy | hy
      · obtain ⟨z, hz, j, hj, e⟩ := mem_wrs_homes hy
        have := hnd z hz
        omega
      · have := hc y hy; omega)
    simpa [List.append_assoc] using this
  · rw [hs.2]
    unfold pageAt
    congr 1
    apply List.ext_getElem?
    intro k
    rw [List.getElem?_take, List.getElem?_take]
    split
    · rename_i hk
      rw [List.getElem?_drop, List.getElem?_drop]
      refine lay_other _ _ _ (fun x hx => ?_)
      rcases List.mem_append.1 hx with hx | hx
      · rcases List.mem_append.1 hx with hx | hx
        · have := ha x hx; omega
        · obtain ⟨z, hz, j, hj, e⟩ := mem_wrs_homes hx
          have := hq z hz
          omega
      · have := hc x hx; omega
    · rfl
end Go.Proofs.YtclpmkinjjhncaaGreat.Sp

/- The walks of package log: Force. -/
namespace Go.Proofs.YtclpmkinjjhncaaGreat
open Go.RowKit

section
variable {F D : Foot} {w : World} {gl gd : Nat} {l : Sp.Lg} {d : Sp.Dk}
def ForcePost (F D : Foot) (w : World) (gl gd : Nat) (l' : Sp.Lg) (d' : Sp.Dk) (e : Ending) (w' : World) : Prop :=
  ∃ D', e = .returned (.int .i64 0) ∧ IsDk D' w' gd d' ∧ IsLg F w' gl gd l' ∧ (∀ b, D' b → D b ∨ w.heap.size ≤ b) ∧ Turns (fun b => F b ∨ D b) (fun b => F b ∨ D' b) w w'

set_option maxRecDepth 100000 in
set_option maxHeartbeats 4000000 in
/-- A force that writes. -/
theorem log_force_do (h : IsLg F w gl gd l) (hd : IsDk D w gd d) (hFD : ∀ b, F b → ¬ D b) (hlo : d.loose = []) (hfu : d.fuse = -1) (hfit : l.at_ + l.n ≤ d.sure.length) (hn : l.next < 4611686018427387904) {lsn : Nat} (hl : lsn ≤ l.next) (h1 : l.forced ≤ lsn) (h2 : l.forced ≠ l.next) :
    Calls Tryz.prog 61 #[ptr gl, .int .u64 lsn] w (ForcePost F D w gl gd l.forces (d.acts l.forceActs)) := by
  have HIN := Lib.hid hd.in_
  have HLI := Lib.hid h.in_
  have HLW := Lib.hid fun (W : World) (d' : Sp.Dk) (D' : Foot) (k : Nat) (h : IsLg F W gl gd l) (hd : IsDk D' W gd d') (hfu : d'.fuse ≠ 0) (hlo : d'.loose.length ≤ 1000000) (hs : d'.sure.length = d.sure.length) (hk : Sp.bg l.first ≤ k) (hk2 : k < l.next) =>
    log_writes h hd hfu hlo (by omega) hn hk hk2
  have HI := Lib.hid h
  have HD := Lib.hid hd
  obtain ⟨hw, bv, sv, h3, h4, h5, h6⟩ := h
  obtain ⟨c0, c1, c2, c3, c4, c5, c6, c7, c8, c9⟩ := h3.lg
  have HM := Lib.hid (log_made (w := w) c0)
  have HB := Lib.hid fun (W : World) => log_begin l.forced (by omega) W
  have hff := hw.ff
  have hfn := hw.fn
  have hbm := Sp.bg_mono hff
  have hbf := Sp.bg_le l.forced
  have hstr := Sp.Lg.strs_le hw
  have hn4 := hw.n4k
  have d1 : decide (l.next < lsn) = false := by rw [decide_eq_false_iff_not]; omega
  have d2 : decide (lsn < l.forced) = false := by rw [decide_eq_false_iff_not]; omega
  have d3 : ((l.forced : Int) == (l.next : Int)) = false := by simp; omega
  have HH := Lib.hid (⟨h4, h5, h6⟩ : w.ownsRow 0 5 1 bv l.bytes.length (bcs l.bytes) ∧ w.ownsRow 0 29 1 sv l.starts.length (lsns l.starts) ∧ ∀ b, F b ↔ b = gl ∨ bv.ownBlock = some b ∨ sv.ownBlock = some b)
  have H3 := Lib.hid h3
  clear hd c0 c1 c2 c3 c4 c5 c6 c9 h4 h5 h6 h3
  go_enter Tryz.func61, Tryz.ntmps61
  go_wp2_with fail
  refine HM.out.mono ?_
  rintro e w1 ⟨rfl, hw1⟩
  subst w1
  go_wp2_with fail
  go_quiet (fail)
  go_wp2_with fail
  refine (HB.out _).mono ?_
  rintro e w1 ⟨rfl, hw1⟩
  subst w1
  have hb1 : Below w.heap.size w (w.drewN nq) := (Turns.refl noFoot w).drewN _ |>.below_none
  have HI1 := Lib.hid (HI.out.below hb1)
  have HD1 := Lib.hid (HD.out.below hb1)
  have hI1b := Lib.hid hb1
  generalize w.drewN nq = w1 at *
  have d8 : ∀ k : Nat, k < l.next → decide (k < l.next) = true := fun k hk => by rw [decide_eq_true_iff]; exact hk
  clear c7 c8 d1 d2 d3 HM HB
  go_wp2_with fail
  go_loopw [5, 6] (fun v5 _ wr => ∃ (j : Nat) (D' : Foot), j ≤ l.strs ∧ v5 = .int .u64 (Sp.bg l.forced + j * 110 : Nat) ∧ IsDk D' wr gd (d.acts (l.forceWrs j)) ∧ Turns D D' w1 wr) (fun v5 _ _ => l.strs * 110 + Sp.bg l.forced - (intOf v5).toNat)
  case atStart => exact ⟨0, D, by omega, by simp, HD1.out, Turns.refl _ _⟩
  case round =>
    obtain ⟨j, D', hj, rfl, hDj, htj⟩ := hrel
    have hLj := HI1.out.turns htj hFD
    have HLj := Lib.hid hLj
    have c7 : wr.cell? ⟨gl, 7, none⟩ = some (.int .u64 l.next) := by
      obtain ⟨_, bv', sv', hB', _⟩ := hLj
      exact hB'.lg.2.2.2.2.2.2.2.1
    have hlo' : (d.acts (l.forceWrs j)).loose.length ≤ 1000000 := by
      have h1 := Sp.acts_loose d (l.forceWrs j)
      have h2 : (l.forceWrs j).length = j := by simp [Sp.Lg.forceWrs]
      rw [hlo, h2] at h1
      have h3 : ([] : List (Nat × Sp.Bs)).length = 0 := rfl
      omega
    have hfu' : (d.acts (l.forceWrs j)).fuse ≠ 0 := by rw [Sp.acts_fuse d hfu]; decide
    have hstl := Sp.Lg.strs_lt (l := l) (j := j) hfn
    have HDj := Lib.hid hDj
    clear hLj hDj
    obtain ⟨k, hk⟩ : ∃ k, k = Sp.bg l.forced + j * 110 := ⟨_, rfl⟩
    rw [← hk] at hstl ⊢
    by_cases hlt : k < l.next
    · have hjs := hstl.2 hlt
      have dl : decide (k < l.next) = true := by simpa using hlt
      have hw9 : IntKind.u64.wrap ((k : Int) + 110) = ((k + 110 : Nat) : Int) := by rw [IntKind.wrap_u64]; omega
      have HW := Lib.hid (HLW.out wr (d.acts (l.forceWrs j)) D' k HLj.out HDj.out hfu' hlo' (Sp.acts_sure d _) (by omega) hlt)
      have HK := Lib.hid hk
      clear hk
      go_wp2_with fail
      refine HW.out.mono ?_
      rintro e w2 ⟨D2, rfl, hD2, ht2⟩
      go_wp2_with fail
      go_roundw
      case rel =>
        refine ⟨j + 1, D2, by omega, ?_, ?_, htj.trans ht2⟩
        · have := HK.out
          refine congrArg (Value.int IntKind.u64) ?_
          omega
        · rw [Sp.Lg.forceWrs_succ, Sp.acts_snoc, ← HK.out]
          exact hD2
      case measure => 
        have := HK.out
        simp [intOf]; omega
    · have hjs : j = l.strs := by have := mt hstl.1 hlt; omega
      subst hjs
      have dl : decide (k < l.next) = false := by simpa using hlt
      have c0 : wr.cell? ⟨gl, 0, none⟩ = some (ptr gd) := by
        obtain ⟨_, bv', sv', hB', _⟩ := HLj.out
        exact hB'.lg.1
      have HSY := Lib.hid (disk_sync HDj.out hfu' hlo')
      clear hk HLW
      go_wp2_with fail
      refine HSY.out.mono ?_
      rintro e w3 ⟨D3, rfl, hD3, _, ht3⟩
      have hFD' : ∀ b, F b → ¬ D' b := fun b hF hD' => by
        rcases htj.foot b hD' with h | h
        · exact hFD b hF h
        · have := HLI.out b hF; have := hI1b.out.size; omega
      have hL3 := HLj.out.turns ht3 hFD'
      have hFD3 : ∀ b, F b → ¬ D3 b := fun b hF hD' => by
        rcases ht3.foot b hD' with h | h
        · exact hFD' b hF h
        · have := HLI.out b hF; have := hI1b.out.size; have := htj.size; omega
      have ht13 := (Turns.of_below hI1b.out D).trans (htj.trans ht3)
      obtain ⟨_, bv3, sv3, hB3, ho3, hs3, h63⟩ := hL3
      have c7' := hB3.lg.2.2.2.2.2.2.2.1
      have f8 := hB3.frozen 8
      have c8' := hB3.lg.2.2.2.2.2.2.2.2.1
      have hB4 := Lib.hid (hB3.set_ 8 (.int .u64 (l.next : Int)))
      have hgb : bv3.ownBlock ≠ some gl := own_ne ho3 hB3 (by decide)
      have hgs : sv3.ownBlock ≠ some gl := own_ne hs3 hB3 (by decide)
      have ho4 := Lib.hid (own_keep ho3 (w' := w3.setCell ⟨gl, 8, none⟩ (.int .u64 (l.next : Int))) (fun b hb => Below.heap_setCell _ _ _ b (fun e => hgb (by rw [hb]; exact congrArg some e))))
      have hs4 := Lib.hid (own_keep hs3 (w' := w3.setCell ⟨gl, 8, none⟩ (.int .u64 (l.next : Int))) (fun b hb => Below.heap_setCell _ _ _ b (fun e => hgs (by rw [hb]; exact congrArg some e))))
      have hFg : F gl := (h63 gl).2 (.inl rfl)
      have hD4 := Lib.hid (hD3.keep (w' := w3.setCell ⟨gl, 8, none⟩ (.int .u64 (l.next : Int))) (fun b hb => Below.heap_setCell _ _ _ b (fun e => hFD3 b (by rw [e]; exact hFg) hb)))
      have ht4 := Lib.hid ((ht13.wider (F := fun b => F b ∨ D b) (F' := fun b => F b ∨ D3 b) (fun b hb => .inr hb) (fun b hb => hb.elim (fun h => .inl (.inl h)) .inr)).setCell (p := ⟨gl, 8, none⟩) (.inl (.inl hFg)) (.int .u64 (l.next : Int)))
      have H63 := Lib.hid h63
      have hDn := ht13.foot
      clear hB3 ho3 hs3 hD3 ht13 c0 h63 HLj HDj HSY
      go_wp2_with fail
      go_ret
      refine ⟨D3, rfl, ?_, ⟨Sp.Lg.forces_wf hw, bv3, sv3, hB4.out, ho4.out, hs4.out, H63.out⟩, hDn, ht4.out⟩
      have : d.acts l.forceActs = (d.acts (l.forceWrs l.strs)).synced := by unfold Sp.Lg.forceActs; rw [Sp.acts_snoc]; rfl
      rw [this]
      exact hD4.out

set_option maxRecDepth 100000 in
set_option maxHeartbeats 2000000 in
/-- A force of what is on the disk. -/
theorem log_force_idle (h : IsLg F w gl gd l) {lsn : Nat} (hl : lsn ≤ l.next) (h1 : lsn < l.forced ∨ l.forced = l.next) :
    Calls Tryz.prog 61 #[ptr gl, .int .u64 lsn] w fun e w' => e = .returned (.int .i64 0) ∧ Below w.heap.size w w' := by
  obtain ⟨hw, bv, sv, h3, h4, h5, h6⟩ := h
  obtain ⟨c0, c1, c2, c3, c4, c5, c6, c7, c8, c9⟩ := h3.lg
  have HM := Lib.hid (log_made (w := w) c0)
  have d1 : decide (l.next < lsn) = false := by rw [decide_eq_false_iff_not]; omega
  clear c0 c1 c2 c3 c4 c5 c6 c9 h4 h5 h6 h3
  by_cases hlt : lsn < l.forced
  · have d2 : decide (lsn < l.forced) = true := by rw [decide_eq_true_iff]; exact hlt
    go_enter Tryz.func61, Tryz.ntmps61
    go_wp2_with fail
    refine HM.out.mono ?_
    rintro e w1 ⟨rfl, hw1⟩
    subst w1
    go_wp2_with fail
    go_ret
    exact ⟨rfl, Below.refl _ _⟩
  · have d2 : decide (lsn < l.forced) = false := by rw [decide_eq_false_iff_not]; exact hlt
    have hnf : l.forced = l.next := h1.resolve_left hlt
    rw [hnf] at c8 d2
    clear hnf h1 hlt
    go_enter Tryz.func61, Tryz.ntmps61
    go_wp2_with fail
    refine HM.out.mono ?_
    rintro e w1 ⟨rfl, hw1⟩
    subst w1
    go_wp2_with fail
    go_quiet (fail)
    go_wp2_with fail
    go_ret
    exact ⟨rfl, ((Turns.refl noFoot w).drewN _).below_none⟩

set_option maxRecDepth 100000 in
set_option maxHeartbeats 2000000 in
/-- A force beyond the end. -/
theorem log_force_bad (h : IsLg F w gl gd l) {lsn : Nat} (hl : l.next < lsn) :
    Calls Tryz.prog 61 #[ptr gl, .int .u64 lsn] w fun e w' => e = .returned (.int .i64 2) ∧ Below w.heap.size w w' := by
  obtain ⟨hw, bv, sv, h3, h4, h5, h6⟩ := h
  obtain ⟨c0, c1, c2, c3, c4, c5, c6, c7, c8, c9⟩ := h3.lg
  have HM := Lib.hid (log_made (w := w) c0)
  have d1 : decide (l.next < lsn) = true := by rw [decide_eq_true_iff]; exact hl
  clear c0 c1 c2 c3 c4 c5 c6 c9 h4 h5 h6 h3
  go_enter Tryz.func61, Tryz.ntmps61
  go_wp2_with fail
  refine HM.out.mono ?_
  rintro e w1 ⟨rfl, hw1⟩
  subst w1
  go_wp2_with fail
  go_ret
  exact ⟨rfl, Below.refl _ _⟩
end
end Go.Proofs.YtclpmkinjjhncaaGreat

/- Plain words: pages of a pool that are written. No program is named here. -/
namespace Go.Proofs.YtclpmkinjjhncaaGreat.Sp

/-- Those of some pages that are dirty. -/
def Pl.isD (p : Pl) (n : Nat) : Bool := match p.find n with
  | some it => it.dirty
  | none => false
def Pl.lsnAt (p : Pl) (n : Nat) : Nat := match p.find n with
  | some it => it.page.lsn
  | none => 0
def Pl.pgAt (p : Pl) (n : Nat) : Bs := match p.find n with
  | some it => pgBytes it.page
  | none => []
def Pl.dirt (p : Pl) (q : List Nat) : List (Nat × Bs) := (q.filter p.isD).map fun n => (n, p.pgAt n)
def Pl.topOf (p : Pl) (q : List Nat) : Nat := (q.filter p.isD).foldl (fun m n => max m (p.lsnAt n)) 0
theorem Pl.dirt_snoc (p : Pl) (q : List Nat) (n : Nat) : p.dirt (q ++ [n]) = if p.isD n = true then p.dirt q ++ [(n, p.pgAt n)] else p.dirt q := by
  unfold Pl.dirt
  rw [List.filter_append]
  by_cases h : p.isD n = true
  · rw [if_pos h, List.filter_cons_of_pos h]; simp
  · rw [if_neg h, List.filter_cons_of_neg h]; simp
theorem Pl.topOf_snoc (p : Pl) (q : List Nat) (n : Nat) : p.topOf (q ++ [n]) = if p.isD n = true then max (p.topOf q) (p.lsnAt n) else p.topOf q := by
  unfold Pl.topOf
  rw [List.filter_append]
  by_cases h : p.isD n = true
  · rw [if_pos h, List.filter_cons_of_pos h]; simp
  · rw [if_neg h, List.filter_cons_of_neg h]; simp
theorem Pl.dirt_take {p : Pl} {q : List Nat} {k : Nat} (h : k < q.length) : p.dirt (q.take (k + 1)) = if p.isD q[k]! = true then p.dirt (q.take k) ++ [(q[k]!, p.pgAt q[k]!)] else p.dirt (q.take k) := by
  rw [List.take_succ_eq_append_getElem h, getElem!_pos _ k h, Pl.dirt_snoc]
theorem Pl.topOf_take {p : Pl} {q : List Nat} {k : Nat} (h : k < q.length) : p.topOf (q.take (k + 1)) = if p.isD q[k]! = true then max (p.topOf (q.take k)) (p.lsnAt q[k]!) else p.topOf (q.take k) := by
  rw [List.take_succ_eq_append_getElem h, getElem!_pos _ k h, Pl.topOf_snoc]
theorem Pl.dirt_len (p : Pl) (q : List Nat) : (p.dirt q).length ≤ q.length := by
  unfold Pl.dirt
  rw [List.length_map]
  exact List.length_filter_le _ _
theorem Pl.dirt_ids (p : Pl) (q : List Nat) : (p.dirt q).map (·.1) = q.filter p.isD := by simp [Pl.dirt, Function.comp_def]
theorem Pl.dirt_mem {p : Pl} {q : List Nat} {x : Nat × Bs} (h : x ∈ p.dirt q) : x.1 ∈ q ∧ ∃ it, p.find x.1 = some it ∧ it.dirty = true ∧ x.2 = pgBytes it.page := by
  obtain ⟨n, hn, rfl⟩ := List.mem_map.1 h
  obtain ⟨h1, h2⟩ := List.mem_filter.1 hn
  refine ⟨h1, ?_⟩
  unfold Pl.isD at h2
  cases hf : p.find n with
  | none => rw [hf] at h2; cases h2
  | some it => rw [hf] at h2; exact ⟨it, rfl, h2, by simp [Pl.pgAt, hf]⟩
/-- Pages that are clean now. -/
def Pl.wash (p : Pl) (D : List Nat) : Pl := { p with items := p.items.map fun x => if x.page.id ∈ D then { x with dirty := false, from_ := 0 } else x }
theorem Pl.wash_nil (p : Pl) : p.wash [] = p := by simp [Pl.wash]
theorem Pl.wash_snoc (p : Pl) (D : List Nat) (n : Nat) : (p.wash D).upd n (fun x => { x with dirty := false, from_ := 0 }) = p.wash (D ++ [n]) := by
  unfold Pl.wash Pl.upd
  simp only [List.map_map, Pl.mk.injEq, true_and, and_true]
  apply List.map_congr_left
  intro x _
  simp only [Function.comp, List.mem_append, List.mem_singleton]
  by_cases h1 : x.page.id ∈ D
  · rw [if_pos h1, if_pos (Or.inl h1)]
    by_cases h2 : x.page.id = n
    · rw [if_pos h2]
    · rw [if_neg h2]
  · rw [if_neg h1]
    by_cases h2 : x.page.id = n
    · rw [if_pos h2, if_pos (Or.inr h2)]
    · rw [if_neg h2, if_neg (fun h => h.elim h1 h2)]
theorem Pl.wash_find (p : Pl) (D : List Nat) (n : Nat) : (p.wash D).find n = (p.find n).map fun x => if x.page.id ∈ D then { x with dirty := false, from_ := 0 } else x := by
  unfold Pl.find Pl.wash
  rw [List.find?_map]
  have e : ((fun it : It => it.page.id == n) ∘ fun x => if x.page.id ∈ D then { x with dirty := false, from_ := 0 } else x) = fun it : It => it.page.id == n := by
    funext x
    simp only [Function.comp]
    split <;> rfl
  rw [e]
theorem Pl.wash_ids (p : Pl) (D : List Nat) : (p.wash D).items.map (·.page.id) = p.items.map (·.page.id) := by
  unfold Pl.wash
  rw [List.map_map]
  apply List.map_congr_left
  intro x _
  simp only [Function.comp]
  split <;> rfl

/-- A log forced up to an LSN; the disk behind it. -/
def Lg.forceTo (l : Lg) (lsn : Nat) : Lg := if lsn < l.forced ∨ l.forced = l.next then l else l.forces
def Dk.forceTo (d : Dk) (l : Lg) (lsn : Nat) : Dk := if lsn < l.forced ∨ l.forced = l.next then d else d.acts l.forceActs
theorem Lg.forceTo_next (l : Lg) (lsn : Nat) : (l.forceTo lsn).next = l.next := by unfold Lg.forceTo; split <;> rfl
theorem Lg.forceTo_at (l : Lg) (lsn : Nat) : (l.forceTo lsn).at_ = l.at_ ∧ (l.forceTo lsn).n = l.n := by unfold Lg.forceTo; split <;> exact ⟨rfl, rfl⟩
theorem Lg.forceTo_wf {l : Lg} (h : l.wf) (lsn : Nat) : (l.forceTo lsn).wf := by
  unfold Lg.forceTo; split
  · exact h
  · exact Lg.forces_wf h
theorem Lg.forceTo_forced {l : Lg} (h : l.wf) (lsn : Nat) : (l.forceTo lsn).forced = if l.forced ≤ lsn then l.next else l.forced := by
  have := h.fn
  unfold Lg.forceTo; split
  · rename_i h1
    split
    · rcases h1 with h1 | h1 <;> omega
    · rfl
  · rename_i h1
    rw [if_pos (by omega)]
    rfl
theorem Dk.forceTo_spec {d : Dk} (hlo : d.loose = []) (hf : d.fuse = -1) {l : Lg} (h : l.wf) (lsn : Nat) : (d.forceTo l lsn).loose = [] ∧ (d.forceTo l lsn).fuse = -1 ∧ (d.forceTo l lsn).sure.length = d.sure.length ∧
    ∀ a, (a + 4 ≤ l.at_ ∨ l.at_ + l.n ≤ a) → pageAt (d.forceTo l lsn).sure a = pageAt d.sure a := by
  unfold Dk.forceTo; split
  · exact ⟨hlo, hf, rfl, fun _ _ => rfl⟩
  · exact force_disk d hlo hf h
end Go.Proofs.YtclpmkinjjhncaaGreat.Sp

/- The walks of package pool: writes, in general. -/
namespace Go.Proofs.YtclpmkinjjhncaaGreat
open Go.RowKit Go.Conc

theorem frCells_wash (it : Sp.It) (A : Option Addr) (c j : Nat) (hj : j < 9) : (frCells { it with dirty := false, from_ := 0 } A c)[j]? = if j = 8 then some (.int .u64 0) else if j = 7 then some (.bool false) else (frCells it A c)[j]? := by
  match j, hj with
  | 0, _ | 1, _ | 2, _ | 3, _ | 4, _ | 5, _ | 6, _ | 7, _ | 8, _ => rfl

/-- A page that is clean now. -/
theorem IsPlAt.washed {F R : Foot} {w : World} {gp gd gl at_ base fb cb mb s r : Nat} {v : Value} {cs : Array Value} {fl ids : List Nat} {p : Sp.Pl} (h : IsPlAt F R w gp gd gl at_ base fb cb mb v s r cs fl ids p) {it : Sp.It} (hit : it ∈ p.items) :
    IsPlAt F R ((w.setCell ⟨fb, it.idx * 9 + 7, none⟩ (.bool false)).setCell ⟨fb, it.idx * 9 + 8, none⟩ (.int .u64 0)) gp gd gl at_ base fb cb mb v s r ((cs.setIfInBounds (it.idx * 9 + 7) (.bool false)).setIfInBounds (it.idx * 9 + 8) (.int .u64 0)) fl ids (p.upd it.page.id fun x => { x with dirty := false, from_ := 0 }) := by
  obtain ⟨A, c, hA, hR, hc⟩ := h.fr.item it hit
  have hkeep : ∀ b, F b → b ≠ fb → ((w.setCell ⟨fb, it.idx * 9 + 7, none⟩ (.bool false)).setCell ⟨fb, it.idx * 9 + 8, none⟩ (.int .u64 0)).heap[b]? = w.heap[b]? := fun b _ hb => (Below.heap_setCell _ _ _ b hb).trans (Below.heap_setCell w _ _ b hb)
  have hsz : w.heap.size ≤ ((w.setCell ⟨fb, it.idx * 9 + 7, none⟩ (.bool false)).setCell ⟨fb, it.idx * 9 + 8, none⟩ (.int .u64 0)).heap.size := by simp [World.setCell]
  refine h.upd (f := fun x => { x with dirty := false, from_ := 0 }) ⟨fun _ => rfl, fun _ => rfl⟩ hit ⟨(h.wf.pg it hit).1, (h.wf.pg it hit).2, (h.wf.small it hit).1, by simp⟩ hsz hkeep ((h.fr.blk.set_ _ _).set_ _ _) ((Framed.cell (by omega) _).trans (Framed.cell (by omega) _)) ⟨A, c, hA, hR.keep hsz (fun b hb => hkeep b (h.rows b hb).1 (h.rows b hb).2.2.1), fun j hj => ?_⟩
  have hlt := h.wf.idx_lt hit
  have hcs := h.fr.size
  rw [frCells_wash it A c j hj]
  split
  · rename_i e
    subst e
    rw [Array.getElem?_setIfInBounds_self_of_lt (by simp; omega)]
  · rw [Array.getElem?_setIfInBounds_ne (by omega)]
    split
    · rename_i e
      subst e
      rw [Array.getElem?_setIfInBounds_self_of_lt (by omega)]
    · rw [Array.getElem?_setIfInBounds_ne (by omega)]
      exact hc j hj

/-- A pool, its disk and its log in memory. -/
structure Mem (F D G R : Foot) (w : World) (gp gd gl at_ base fb cb mb : Nat) (v : Value) (s r : Nat) (cs : Array Value) (fl ids : List Nat) (p : Sp.Pl) (d : Sp.Dk) (l : Sp.Lg) : Prop where
  pl : IsPlAt F R w gp gd gl at_ base fb cb mb v s r cs fl ids p
  dk : IsDk D w gd d
  lg : IsLg G w gl gd l
  FD : ∀ b, F b → ¬ D b
  FG : ∀ b, F b → ¬ G b
  DG : ∀ b, D b → ¬ G b
/-- What is asked of a disk and its log. -/
structure DkLg (at_ base : Nat) (d : Sp.Dk) (l : Sp.Lg) : Prop where
  loose : d.loose = []
  fuse : d.fuse = -1
  fit : l.at_ + l.n ≤ d.sure.length
  area : at_ + 33 ≤ d.sure.length
  homes : base ≤ d.sure.length
  next : l.next < 4611686018427387904

/-- All blocks of the three. -/
abbrev allF (F D G : Foot) : Foot := fun b => F b ∨ D b ∨ G b

/-- What a force up to an LSN that there is leaves. -/
theorem log_force {G D : Foot} {w : World} {gl gd : Nat} {l : Sp.Lg} {d : Sp.Dk} {at_ base : Nat} (h : IsLg G w gl gd l) (hd : IsDk D w gd d) (hDG : ∀ b, D b → ¬ G b) (ok : DkLg at_ base d l) {lsn : Nat} (hl : lsn ≤ l.next) :
    Calls Tryz.prog 61 #[ptr gl, .int .u64 lsn] w (ForcePost G D w gl gd (l.forceTo lsn) (d.forceTo l lsn)) := by
  by_cases h1 : lsn < l.forced ∨ l.forced = l.next
  · refine (log_force_idle h hl h1).mono ?_
    rintro e w' ⟨rfl, hb⟩
    unfold Sp.Lg.forceTo Sp.Dk.forceTo
    rw [if_pos h1, if_pos h1]
    exact ⟨D, rfl, hd.below hb, h.below hb, fun b hb => .inl hb, Turns.of_below hb _⟩
  · have := log_force_do h hd (fun b hG hD => hDG b hD hG) ok.loose ok.fuse ok.fit ok.next hl (by omega) (by omega)
    unfold Sp.Lg.forceTo Sp.Dk.forceTo
    rw [if_neg h1, if_neg h1]
    exact this

/-- What writes answers and leaves, of some pages in order. -/
def Wrote (at_ base : Nat) (p : Sp.Pl) (d : Sp.Dk) (l : Sp.Lg) (q : List Nat) (c : Nat) (p' : Sp.Pl) (d' : Sp.Dk) (l' : Sp.Lg) : Prop :=
  (p.dirt q = [] ∧ c = 0 ∧ p' = p ∧ d' = d ∧ l' = l) ∨
  (p.dirt q ≠ [] ∧ l.next < p.topOf q ∧ c = 2 ∧ p' = p ∧ d' = d ∧ l' = l) ∨
  (p.dirt q ≠ [] ∧ p.topOf q ≤ l.next ∧ c = 0 ∧ p' = p.wash ((p.dirt q).map (·.1)) ∧ d' = (d.forceTo l (p.topOf q)).acts (Sp.twinActs at_ base (p.dirt q)) ∧ l' = l.forceTo (p.topOf q))
def WrtPost (F D G R : Foot) (w : World) (gp gd gl at_ base fb cb mb : Nat) (v : Value) (s r : Nat) (fl ids : List Nat) (p : Sp.Pl) (d : Sp.Dk) (l : Sp.Lg) (gx : Nat) (q : List Nat) (e : Ending) (w' : World) : Prop :=
  ∃ (c : Nat) (D' : Foot) (cs' : Array Value) (p' : Sp.Pl) (d' : Sp.Dk) (l' : Sp.Lg), e = .returned (.int .i64 c) ∧ Wrote at_ base p d l q c p' d' l' ∧ (c ≠ 0 → D' = D) ∧ Mem F D' G R w' gp gd gl at_ base fb cb mb v s r cs' fl ids p' d' l' ∧ Turns (fun b => allF F D G b ∨ b = gx) (fun b => allF F D' G b ∨ b = gx) w w'

theorem home_all : (Tryz.prog.info? 180).map (fun i => (i.zero, i.size, i.bytes)) = some (some (.agg #[.int .u32 0, .string ⟨#[]⟩]), 2, 24) := home_info

set_option maxRecDepth 100000 in
set_option maxHeartbeats 8000000 in
theorem pool_writes_dirty {F D G R : Foot} {w : World} {gp gd gl at_ base fb cb mb s r : Nat} {v : Value} {cs : Array Value} {fl ids : List Nat} {p : Sp.Pl} {d : Sp.Dk} {l : Sp.Lg} (h : Mem F D G R w gp gd gl at_ base fb cb mb v s r cs fl ids p d l) (ok : DkLg at_ base d l)
    {ql : List Nat} {gx cap : Nat} {xs : Array Value} (hb : Blk w gx 25 xs) (hgx : ¬ allF F D G gx) (hl : ql.length ≤ 12) (hxs : ∀ j, j < ql.length → xs[j]? = some (u32v ql[j]!))
    (hin : ∀ n ∈ ql, n < 4294967296 ∧ Sp.inside d.sure.length at_ base n ∧ ∃ it, p.find n = some it) (hnd : ql.Nodup) (h8 : (p.dirt (Sp.sorted ql)).length ≤ 8) (hdirt : p.dirt (Sp.sorted ql) ≠ []) :
    Calls Tryz.prog 141 #[ptr gp, .slice (some ⟨gx, 0, none⟩) ql.length cap] w (WrtPost F D G R w gp gd gl at_ base fb cb mb v s r fl ids p d l gx (Sp.sorted ql)) := by
  have HS := Lib.hid (sort_row (cap := cap) hb hl hxs)
  have HMEM := Lib.hid h
  have hgl : gx < w.heap.size := hb.lt
  have hperm := (Sp.sorted_spec ql).1
  have hin2 : ∀ n ∈ Sp.sorted ql, n < 4294967296 ∧ Sp.inside d.sure.length at_ base n ∧ ∃ it, p.find n = some it := fun n hn => hin n (hperm.mem_iff.1 hn)
  have hnd2 := hperm.nodup_iff.2 hnd
  have hps := hperm.length_eq
  have HIN := Lib.hid hin2
  have HND := Lib.hid hnd2
  have H8 := Lib.hid h8
  have HDI := Lib.hid hdirt
  have hn64 := h.pl.wf.n64
  obtain ⟨i9, hi9, hz9, hz91, hz92⟩ := info_parts fr_info
  obtain ⟨iH, hiH0, hyH00, hyH10, hyH20⟩ := info_parts home_all
  have hiH := Lib.hid hiH0
  have hyH0 := Lib.hid hyH00
  have hyH1 := Lib.hid hyH10
  have hyH2 := Lib.hid hyH20
  clear hiH0 hyH00 hyH10 hyH20 h hb hxs hin hin2 hnd hnd2 h8 hdirt
  go_enter Tryz.func141, Tryz.ntmps141
  go_wp2_with fail
  refine HS.out.mono ?_
  rintro e w1 ⟨rfl, cs1, hb1, hcs1, hc1, hg1⟩
  rw [← hps] at hc1
  have ht1 : Turns (only gx) (only gx) w w1 := (Turns.refl (only gx) w).grown hg1 (fun k hk => .inl (by injection hk with hk; exact hk.symm))
  have H1 := Lib.hid (HMEM.out.pl.keep ht1.size (fun b hb => ht1.block b (HMEM.out.pl.lt b hb) (fun e => hgx (by have e : b = gx := e; rw [← e]; exact .inl hb))))
  have HDK1 := Lib.hid (HMEM.out.dk.keep (fun b hb => ht1.block b (HMEM.out.dk.in_ b hb) (fun e => hgx (by have e : b = gx := e; rw [← e]; exact .inr (.inl hb)))))
  have HLG1 := Lib.hid (HMEM.out.lg.keep (fun b hb => ht1.block b (HMEM.out.lg.in_ b hb) (fun e => hgx (by have e : b = gx := e; rw [← e]; exact .inr (.inr hb)))))
  have HT1 := Lib.hid ht1
  have HC1 := Lib.hid hc1
  have HB1 := Lib.hid hb1
  have HG := Lib.hid hgx
  clear HS hg1 hc1 hb1 hperm hgx ht1
  generalize Sp.sorted ql = q at *
  rw [← hps] at hl ⊢
  clear hps
  go_wp2_with fail
  go_loopw [5, 6, 21] (fun v5 v6 i wr => ∃ (k : Nat) (A5 : Option Addr) (n5 c5 : Nat), k ≤ q.length ∧ v5 = .slice A5 n5 c5 ∧ n5 = (p.dirt (q.take k)).length ∧ wr.ownsRow w1.heap.size 180 2 (.slice A5 n5 c5) (p.dirt (q.take k)).length (hcs (p.dirt (q.take k))) ∧ v6 = .int .u64 (p.topOf (q.take k)) ∧ i = .int .i64 k ∧ Turns noFoot noFoot w1 wr) (fun _ _ i _ => q.length - (intOf i).toNat)
  case atStart => exact ⟨0, none, 0, 0, by omega, rfl, rfl, World.ownsRow_nil _ _ _ _, rfl, rfl, Turns.refl _ _⟩
  case round =>
    obtain ⟨k, A5, n5, c5, hk, rfl, hn5, hown, rfl, rfl, htr⟩ := hrel
    have H2 := Lib.hid (H1.out.keep htr.size (fun b hb => htr.block b (H1.out.lt b hb) (fun e => e)))
    have hB2 := HB1.out.turns htr (fun e => e)
    have HO := Lib.hid hown
    have HN5 := Lib.hid hn5
    clear hown hn5
    by_cases hlt : k < q.length
    · have hcell := (hB2.cell k).trans (HC1.out k hlt)
      obtain ⟨hid, hins, it, hf⟩ := HIN.out q[k]! (by rw [getElem!_pos _ k hlt]; exact List.getElem_mem hlt)
      have hDT := Lib.hid (Sp.Pl.dirt_take (p := p) hlt)
      have hTT := Lib.hid (Sp.Pl.topOf_take (p := p) hlt)
      have hmeas : k + 1 ≤ q.length := hlt
      have hdlen := Sp.Pl.dirt_len p (q.take k)
      have htkl : (q.take k).length ≤ k := by simp; omega
      clear hB2
      generalize q[k]! = id at *
      obtain ⟨hit, rfl⟩ := Sp.Pl.find_mem hf
      have hisd : Hid (p.isD it.page.id = it.dirty ∧ p.lsnAt it.page.id = it.page.lsn ∧ p.pgAt it.page.id = pgBytes it.page) := Lib.hid (by unfold Sp.Pl.isD Sp.Pl.lsnAt Sp.Pl.pgAt; rw [hf]; exact ⟨rfl, rfl, rfl⟩)
      have hpgw := H2.out.wf.pg it hit
      obtain ⟨A, c, hA, hR, hc⟩ := H2.out.fr.item it hit
      have hlt9 := H2.out.wf.idx_lt hit
      have hload := fun (W : World) (hb : Blk W fb 123 cs) => load_frame hb rfl hc
      have HSS : ∀ W, IsPlAt F R W gp gd gl at_ base fb cb mb v s r cs fl ids p → W.cell? ⟨gp, 4, none⟩ = some (.slice (some ⟨fb, 0, none⟩) p.n p.n) ∧ W.cell? ⟨gp, 6, none⟩ = some (.map (some mb)) ∧
          (Instr.lookup 119 (.map (some mb)) (u32v it.page.id) false).run Tryz.prog W = .ok (.int .i64 it.idx) W ∧ Blk W fb 123 cs := fun W h => by
        obtain ⟨c0, c1, c2, c3, c4, c5, c6, c7⟩ := h.cells
        exact ⟨c4, c6, h.look hid hf, h.fr.blk⟩
      have HSSH := Lib.hid HSS
      have HL := Lib.hid hload
      have HRR := Lib.hid hR
      have hRl : ∀ b, R b → b < wr.heap.size := fun b hb => H2.out.lt b (H2.out.rows b hb).1
      clear HSS hload hc hA hR hf
      go_wp2_with fail
      refine R_begin (fun W => W.cell? ⟨gp, 4, none⟩ = some (.slice (some ⟨fb, 0, none⟩) p.n p.n) ∧ W.cell? ⟨gp, 6, none⟩ = some (.map (some mb)) ∧
          (Instr.lookup 119 (.map (some mb)) (u32v it.page.id) false).run Tryz.prog W = .ok (.int .i64 it.idx) W ∧ Blk W fb 123 cs) (fun j => j == 13) rfl ?_
      have hS := Lib.hid (HSSH.out wr.drew (H2.out.keep (Nat.le_refl _) (fun _ _ => rfl)))
      refine R_take 0 25 (v := ?_) rfl rfl (by rfl) (by kernel_rfl) (fun _ _ _ h => h) hS.out ?_ ?_
      rotate_left
      · intro w hSw; (try dsimp only at hSw); go_simp; (try with_reducible rfl)
      simp only [List.setIfInBounds_toArray, List.set_cons_zero, List.set_cons_succ]
      refine R_take 1 26 (v := ?_) rfl rfl (by rfl) (by kernel_rfl) (fun _ _ _ h => h) hS.out ?_ ?_
      rotate_left
      · intro w hSw; (try dsimp only at hSw); go_simp; (try with_reducible rfl)
      simp only [List.setIfInBounds_toArray, List.set_cons_zero, List.set_cons_succ]
      refine R_take 2 27 (v := ?_) rfl rfl (by rfl) (by kernel_rfl) (fun _ _ _ h => h) hS.out ?_ ?_
      rotate_left
      · intro w hSw; (try dsimp only at hSw); go_simp; (try with_reducible rfl)
      simp only [List.setIfInBounds_toArray, List.set_cons_zero, List.set_cons_succ]
      refine R_take 3 28 (v := ?_) rfl rfl (by rfl) (by kernel_rfl) (fun _ _ _ h => h) hS.out ?_ ?_
      rotate_left
      · intro w hSw; (try dsimp only at hSw); go_simp; (try with_reducible rfl)
      simp only [List.setIfInBounds_toArray, List.set_cons_zero, List.set_cons_succ]
      refine R_take 4 29 (v := ?_) rfl rfl (by rfl) (by kernel_rfl) (fun _ _ _ h => h) hS.out ?_ ?_
      rotate_left
      · intro w hSw; (try dsimp only at hSw); go_simp; (try with_reducible rfl)
      simp only [List.setIfInBounds_toArray, List.set_cons_zero, List.set_cons_succ]
      refine R_take 5 30 (v := ?_) rfl rfl (by rfl) (by kernel_rfl) (fun _ _ _ h => h) hS.out ?_ ?_
      rotate_left
      · intro w hSw; (try dsimp only at hSw); go_simp; (try with_reducible rfl)
      simp only [List.setIfInBounds_toArray, List.set_cons_zero, List.set_cons_succ]
      refine R_take 6 31 (v := ?_) rfl rfl (by rfl) (by kernel_rfl) (fun _ _ _ h => h) hS.out ?_ ?_
      rotate_left
      · intro w hSw; (try dsimp only at hSw); go_simp; (try with_reducible rfl)
      simp only [List.setIfInBounds_toArray, List.set_cons_zero, List.set_cons_succ]
      refine R_take 7 32 (v := ?_) rfl rfl (by rfl) (by kernel_rfl) (fun _ _ _ h => h) hS.out ?_ ?_
      rotate_left
      · intro w hSw; (try dsimp only at hSw); go_simp; (try with_reducible rfl)
      simp only [List.setIfInBounds_toArray, List.set_cons_zero, List.set_cons_succ]
      refine R_take 8 33 (v := ?_) rfl rfl (by rfl) (by kernel_rfl) (fun _ _ _ h => h) hS.out ?_ ?_
      rotate_left
      · intro w hSw; (try dsimp only at hSw); go_simp; (try with_reducible rfl)
      simp only [List.setIfInBounds_toArray, List.set_cons_zero, List.set_cons_succ]
      refine R_take 9 34 (v := ?_) rfl rfl (by rfl) (by kernel_rfl) (fun _ _ _ h => h) hS.out ?_ ?_
      rotate_left
      · intro w hSw; (try dsimp only at hSw); go_simp; (try with_reducible rfl)
      simp only [List.setIfInBounds_toArray, List.set_cons_zero, List.set_cons_succ]
      refine R_take 10 35 (v := ?_) rfl rfl (by rfl) (by kernel_rfl) (fun _ _ _ h => h) hS.out ?_ ?_
      rotate_left
      · intro w hSw; (try dsimp only at hSw); go_simp; (try with_reducible rfl)
      simp only [List.setIfInBounds_toArray, List.set_cons_zero, List.set_cons_succ]
      refine R_take 11 36 (v := .agg (frCells it A c).toArray) rfl rfl (by rfl) (by kernel_rfl) (fun _ _ _ h => h) hS.out ?_ ?_
      · intro w hSw
        exact run_op_load _ _ _ rfl rfl (HL.out w hSw.2.2.2)
      simp only [List.setIfInBounds_toArray, List.set_cons_zero, List.set_cons_succ]
      have hk3 := H2.out.keep (w' := wr.drew.alloc (.cells zeroFr.toArray 123)) (by simp) (fun b hb => Below.heap_alloc wr.drew _ b (H2.out.lt b hb))
      refine R_run 12 9 (v := .pointer (some ⟨wr.drew.heap.size, 0, none⟩)) (w' := wr.drew.alloc (.cells zeroFr.toArray 123)) rfl rfl (by rfl) (by kernel_rfl) (run_op_alloc _ i9 _ _ rfl hi9 hz9 rfl) (fun _ => HSSH.out _ hk3) ?_
      simp only [List.setIfInBounds_toArray, List.set_cons_zero, List.set_cons_succ]
      have hB9 := Blk.new wr.drew 123 zeroFr.toArray
      have ht9 := htr.drew.alloc (.cells zeroFr.toArray 123)
      have hl9 : w1.heap.size ≤ wr.drew.heap.size := htr.size
      have htw9 := (Turns.refl noFoot wr).drew.alloc (.cells zeroFr.toArray 123)
      have hlw9 : wr.heap.size ≤ wr.drew.heap.size := Nat.le_refl _
      obtain ⟨g9, hg9⟩ : ∃ g, g = wr.drew.heap.size := ⟨_, rfl⟩
      obtain ⟨w3, hw3⟩ : ∃ w3, w3 = wr.drew.alloc (.cells zeroFr.toArray 123) := ⟨_, rfl⟩
      rw [← hw3, ← hg9] at hB9 ⊢
      rw [← hw3] at ht9 htw9
      rw [← hg9] at hl9 hlw9
      clear hw3 hg9 hk3 hS HL HSSH
      refine R_store 13 (n := .skip) (w' := w3.setRow g9 (frCells it A c).toArray) rfl rfl (by rfl) (by kernel_rfl) (run_op_store _ _ _ _ _ rfl rfl rfl (run_storeVar_part w3 g9 0 _ _ _ (frCells it A c).toArray hB9 fr_size (by show 0 + 9 ≤ 9; omega) (frCells_one it A c))) (.inl rfl) (fun h => nomatch h) ?_
      refine R_done (by kernel_rfl) ?_ _
      rename_i K9 hK9
      refine hK9 _ _ ?_
      have hB9 := hB9.setRow (frCells it A c).toArray
      have ht9 := ht9.setRow (g := g9) (.inr hl9) (frCells it A c).toArray
      have htw9 := htw9.setRow (g := g9) (.inr hlw9) (frCells it A c).toArray
      obtain ⟨w4, hw4⟩ : ∃ w4, w4 = w3.setRow g9 (frCells it A c).toArray := ⟨_, rfl⟩
      rw [← hw4] at hB9 ht9 htw9 ⊢
      clear hw4
      have hOw4 := own_keep HO.out (w' := w4) (fun b hb => htw9.block b (HO.out.lt b hb).2 (fun e => e))
      have f7 := hB9.cell 7
      simp only [frCells, List.getElem?_toArray, List.getElem?_cons_succ, List.getElem?_cons_zero] at f7
      obtain ⟨hisd, hlsn, hpga⟩ := hisd.out
      rw [hisd, hpga] at hDT
      rw [hisd, hlsn] at hTT
      cases hd : it.dirty with
      | false =>
        rw [hd] at f7 hDT hTT
        rw [if_neg (by decide)] at hDT hTT
        have HO4 := Lib.hid hOw4
        clear hB9 hcell hOw4 htw9 hpga hlsn hisd hd
        go_wp2_with fail
        go_roundw
        case rel => exact ⟨k + 1, A5, n5, c5, hmeas, rfl, by rw [hDT.out]; exact HN5.out, by rw [hDT.out]; exact HO4.out, by rw [hTT.out], by go_num, ht9⟩
        case measure => simp [intOf]; omega
      | true =>
        rw [hd] at f7 hDT hTT
        rw [if_pos rfl] at hDT hTT
        have z0 := hB9.cell 0
        have z1 := hB9.cell 1
        have z2 := hB9.cell 2
        have z3 := hB9.cell 3
        have z4 := hB9.cell 4
        have z5 := hB9.cell 5
        simp only [frCells, List.getElem?_toArray, List.getElem?_cons_succ, List.getElem?_cons_zero] at z0 z1 z2 z3 z4 z5
        have HPE := Lib.hid (page_encode (w := w4) (c := c) (HRR.out.keep (w' := w4) htw9.size (fun b hb => htw9.block b (hRl b hb) (fun e => e))) hpgw.1 hpgw.2)
        have HO4 := Lib.hid hOw4
        have HB9 := Lib.hid hB9
        have hsw4 := htw9.size
        clear hB9 hcell hOw4 htw9 hpga hlsn hisd hd HRR
        go_wp2_with fail
        refine HPE.out.mono ?_
        rintro e w5 ⟨rfl, hb5⟩
        have HO5 := Lib.hid (own_below HO4.out hb5)
        have z3' := (HB9.out.below hb5 HB9.out.lt).cell 3
        simp only [frCells, List.getElem?_toArray, List.getElem?_cons_succ, List.getElem?_cons_zero] at z3'
        have ht5 := ht9.next hb5
        clear z0 z1 z2 z3 z4 z5 f7 HO4 HPE
        have hba := (Below.refl w5.heap.size w5).alloc (Nat.le_refl _) (.cells #[u32v it.page.id, str (pgBytes it.page)] 180)
        have hOa := Lib.hid (own_below HO5.out hba)
        have hs5 := hb5.size
        have hs1 := htr.size
        have hn13 : (p.dirt (q.take k)).length ≤ 12 := by omega
        have hmx : max ((p.topOf (q.take k) : Nat) : Int) (it.page.lsn : Nat) = ((max (p.topOf (q.take k)) it.page.lsn : Nat) : Int) := by omega
        rw [HN5.out] at *
        go_wp2_with (at_builtin; refine wpList_append_own2 _ rfl _ _ 243 rfl w1.heap.size 180 iH _ 2 24 Tryz.underlying243 hiH.out hyH0.out hyH1.out hyH2.out rfl (by decide) _ _ _ rfl hOa.out ⟨w5.heap.size, 0, none⟩ 1 1 [u32v it.page.id, str (pgBytes it.page)] rfl rfl (fun j u hu => ?cells) ?one (by unfold maxLen; omega) (by omega) (by simp; omega) ?next)
        case cells =>
          match j, hu with
          | 0, hu => exact ((Blk.new w5 _ _).cell 0).trans hu
          | 1, hu => exact ((Blk.new w5 _ _).cell 1).trans hu
          | j + 2, hu => simp at hu
        case one =>
          intro u hu
          simp only [List.mem_cons, List.not_mem_nil, or_false] at hu
          rcases hu with rfl | rfl <;> rfl
        case next =>
          intro v6 w6 hown6 hgrow6 _
          have hB6 := (((HB9.out.below hb5 HB9.out.lt).below hba (by have := (HB9.out.below hb5 HB9.out.lt).lt; exact this))).grown hgrow6 (fun e => own_ne hOa.out ((HB9.out.below hb5 HB9.out.lt).below hba (by have := (HB9.out.below hb5 HB9.out.lt).lt; exact this)) (by decide) e.symm)
          have z3' := hB6.cell 3
          simp only [frCells, List.getElem?_toArray, List.getElem?_cons_succ, List.getElem?_cons_zero] at z3'
          have ht6 : Turns noFoot noFoot w1 w6 := by
            have h1 := (ht5.next hba).grown hgrow6 (fun b hb => .inr (hOa.out.lt b hb).1)
            exact h1
          obtain ⟨g6, c6, rfl⟩ := own_form' hown6 (by omega)
          have HO6 := Lib.hid hown6
          clear hown6 hgrow6 hB6 hOa hba HB9
          go_wp2_with fail
          go_roundw
          case rel =>
            refine ⟨k + 1, _, _, c6, hmeas, rfl, by rw [hDT.out]; simp, ?_, by rw [hTT.out], by go_num, ht6⟩
            rw [hDT.out, List.length_append, hcs_app]
            exact HO6.out
          case measure => simp [intOf]; omega
    · obtain rfl : k = q.length := by omega
      rw [List.take_length] at HO HN5 ⊢
      clear hB2 H2
      have hn1 : 1 ≤ (p.dirt q).length := List.length_pos_iff.2 HDI.out
      have hdn0 : ((n5 : Int) == 0) = false := by have := HN5.out; simp; omega
      obtain ⟨gh, ch, hv5⟩ := own_form' HO.out hn1
      injection hv5 with e1 e2 e3
      subst e1 e2 e3
      have HLG := Lib.hid (HLG1.out.keep (fun b hb => htr.block b (HLG1.out.in_ b hb) (fun e => e)))
      have HDK := Lib.hid (HDK1.out.keep (fun b hb => htr.block b (HDK1.out.in_ b hb) (fun e => e)))
      have H2 := Lib.hid (H1.out.keep htr.size (fun b hb => htr.block b (H1.out.lt b hb) (fun e => e)))
      obtain ⟨c0, c1, c2, c3, c4, c5', c6, c7⟩ := H2.out.cells
      have hd1 : ((p.dirt q).length == 0) = false := by simp; exact HDI.out
      have hd2 : ¬ p.dirt q = [] := HDI.out
      have hTW : Turns (fun b => allF F D G b ∨ b = gx) (fun b => allF F D G b ∨ b = gx) w wr :=
        (HT1.out.wider (fun b hb => .inr hb) (fun b hb => .inl hb)).trans (htr.wider (fun b hb => hb.elim) (fun b hb => .inl hb))
      have hs1 := HT1.out.size
      have hsr := htr.size
      have HTW := Lib.hid hTW
      clear c0 c2 c3 c4 c5' c6 c7 hTW
      by_cases htop : p.topOf q ≤ l.next
      · have HFO := Lib.hid (log_force HLG.out HDK.out HMEM.out.DG ok htop)
        go_wp2_with fail
        refine HFO.out.mono ?_
        rintro e w5 ⟨D5, rfl, hD5, hG5, hD5n, ht5⟩
        have hDin := HMEM.out.dk.in_
        have hGin := HMEM.out.lg.in_
        have hFin := HMEM.out.pl.lt
        have hO5 := own_keep HO.out (w' := w5) (fun b hb => ht5.block b (HO.out.lt b hb).2 (fun e => by
          have := (HO.out.lt b hb).1
          rcases e with e | e
          · have := hGin b e; omega
          · have := hDin b e; omega))
        have H5 := Lib.hid (H2.out.keep ht5.size (fun b hb => ht5.block b (H2.out.lt b hb) (fun e => e.elim (HMEM.out.FG b hb) (HMEM.out.FD b hb))))
        obtain ⟨c0, c1', c2, c3, c4, c5', c6, c7⟩ := H5.out.cells
        have hsp := Sp.Dk.forceTo_spec ok.loose ok.fuse HLG.out.wf (p.topOf q)
        have hR5 := own_reads hO5
        have hpp : ∀ x ∈ p.dirt q, x.1 < 4294967296 ∧ x.2.length = 512 ∧ Sp.inside (d.forceTo l (p.topOf q)).sure.length at_ base x.1 := fun x hx => by
          obtain ⟨hx1, it, hf, _, hx2⟩ := Sp.Pl.dirt_mem hx
          obtain ⟨i1, i2, _⟩ := HIN.out x.1 hx1
          rw [hsp.2.2.1, hx2]
          exact ⟨i1, pgBytes_length (H5.out.wf.pg it (Sp.Pl.find_mem hf).1).2, i2⟩
        have hTWR := twin_write (w := w5.drew) (c := c5) (hD5.below (Below.refl _ w5).drew) hsp.2.1 (by rw [hsp.1]; simp) at_ base hR5 hn1 H8.out hpp (by rw [Sp.Pl.dirt_ids]; exact HND.out.filter _) (by rw [hsp.2.2.1]; exact ok.area) (by rw [hsp.2.2.1]; exact ok.homes)
        have HTWR := Lib.hid hTWR
        have hS := Lib.hid (show w5.drew.cell? ⟨gp, 0, none⟩ = some (ptr gd) ∧ w5.drew.cell? ⟨gp, 2, none⟩ = some (.int .i64 at_) ∧ w5.drew.cell? ⟨gp, 3, none⟩ = some (.int .i64 base) from ⟨c0, c2, c3⟩)
        have HO5 := Lib.hid hO5
        have HT5 := Lib.hid ht5
        have HG5 := Lib.hid hG5
        have hsz5 := ht5.size
        clear c0 c1' c2 c3 c4 c5' c6 c7 hsp hR5 hpp hTWR hD5 hO5 ht5 hG5 HFO c1
        go_wp2_with fail
        refine R_begin (fun W => W.cell? ⟨gp, 0, none⟩ = some (ptr gd) ∧ W.cell? ⟨gp, 2, none⟩ = some (.int .i64 at_) ∧ W.cell? ⟨gp, 3, none⟩ = some (.int .i64 base)) (fun j => decide (13 ≤ j)) rfl ?_
        refine R_tt 0 72 hS.out ?_
        refine R_tt 1 73 hS.out ?_
        refine R_tt 2 74 hS.out ?_
        refine R_tt 3 75 hS.out ?_
        refine R_tt 4 76 hS.out ?_
        refine R_tt 5 77 hS.out ?_
        refine R_tt 6 78 hS.out ?_
        refine R_tt 7 79 hS.out ?_
        refine R_tt 8 80 hS.out ?_
        refine R_tt 9 81 hS.out ?_
        refine R_tt 10 82 hS.out ?_
        refine R_tt 11 83 hS.out ?_
        refine R_tt 12 84 hS.out ?_
        simp only [List.setIfInBounds_toArray, List.set_cons_zero, List.set_cons_succ]
        refine R_call 13 85 (w' := w5.drew) rfl rfl (by rfl) (by kernel_rfl) ?_ HTWR.out ?_
        · go_simp
        rintro e w6 ⟨D6, rfl, hD6, ht6⟩
        refine ⟨_, rfl, (fun h => nomatch h), ?_⟩
        simp only [List.setIfInBounds_toArray, List.set_cons_zero, List.set_cons_succ]
        refine R_run 14 13 (v := .int .i64 0) (w' := w6) rfl rfl (by rfl) (by kernel_rfl) (by go_simp) (fun h => nomatch h) ?_
        simp only [List.setIfInBounds_toArray, List.set_cons_zero, List.set_cons_succ]
        refine R_done (by kernel_rfl) ?_ _
        rename_i K9 hK9
        refine hK9 _ _ ?_
        clear hK9 hS HTWR
        have hD6n : ∀ b, D6 b → D b ∨ wr.heap.size ≤ b := fun b hb => by
          rcases ht6.foot b hb with h | h
          · exact hD5n b h
          · exact .inr (Nat.le_trans hsz5 h)
        have hF6 : ∀ b, F b → ¬ D5 b := fun b hF hD => by
          rcases hD5n b hD with h | h
          · exact HMEM.out.FD b hF h
          · have := hFin b hF; omega
        have hG6 : ∀ b, G b → ¬ D5 b := fun b hF hD => by
          rcases hD5n b hD with h | h
          · exact HMEM.out.DG b h hF
          · have := hGin b hF; omega
        replace ht6 : Turns D5 D6 w5 w6 := ⟨ht6.os, ht6.tape, ht6.output, ht6.size, ht6.block, ht6.foot⟩
        have hO6 := own_keep HO5.out (w' := w6) (fun b hb => ht6.block b (HO5.out.lt b hb).2 (fun e => by
          have h1 := (HO.out.lt b hb)
          rcases hD5n b e with h | h
          · have := hDin b h; omega
          · omega))
        have H6 := Lib.hid (H5.out.keep ht6.size (fun b hb => ht6.block b (H5.out.lt b hb) (hF6 b hb)))
        have HG6 := Lib.hid (HG5.out.keep (fun b hb => ht6.block b (HG5.out.in_ b hb) (hG6 b hb)))
        have HD6 := Lib.hid hD6
        have hTW6 : Turns (fun b => allF F D G b ∨ b = gx) (fun b => allF F D6 G b ∨ b = gx) w w6 := by
          refine ⟨ht6.os.trans (HT5.out.os.trans HTW.out.os), ht6.tape.trans (HT5.out.tape.trans HTW.out.tape), ht6.output.trans (HT5.out.output.trans HTW.out.output), by have := ht6.size; omega, fun b hb hn => ?_, fun b hb => ?_⟩
          · rw [ht6.block b (by omega) (fun e => by
              rcases hD5n b e with h | h
              · exact hn (.inl (.inr (.inl h)))
              · omega), HT5.out.block b (by omega) (fun e => hn (e.elim (fun h => .inl (.inr (.inr h))) (fun h => .inl (.inr (.inl h)))))]
            exact HTW.out.block b hb hn
          · rcases hb with (h | h | h) | h
            · exact .inl (.inl (.inl h))
            · rcases hD6n b h with h | h
              · exact .inl (.inl (.inr (.inl h)))
              · exact .inr (by omega)
            · exact .inl (.inl (.inr (.inr h)))
            · exact .inl (.inr h)
        have HTW6 := Lib.hid hTW6
        have HO6 := Lib.hid hO6
        have hgh1 := (HO.out.lt gh rfl)
        have hFgh : ¬ F gh := fun e => by have := hFin gh e; omega
        have hFz : ∀ b, F b → b < w.heap.size := hFin
        have hs6 := ht6.size
        clear hTW6 hO6 hD6 ht6 HT5 HO5 H5 HG5 HTW
        go_wp2_with fail
        go_loopw [91] (fun i wx => ∃ (j : Nat) (csj : Array Value), j ≤ (p.dirt q).length ∧ i = .int .i64 j ∧ IsPlAt F R wx gp gd gl at_ base fb cb mb v s r csj fl ids (p.wash (((p.dirt q).take j).map (·.1))) ∧ Turns F F w6 wx) (fun i _ => (p.dirt q).length - (intOf i).toNat)
        case atStart => exact ⟨0, cs, by omega, rfl, by simpa [Sp.Pl.wash_nil] using H6.out, Turns.refl _ _⟩
        case round =>
          obtain ⟨j, csj, hj, rfl, hpj, htj⟩ := hrel
          by_cases hlt : j < (p.dirt q).length
          · have hOj := own_keep HO6.out (w' := wr) (fun b hb => htj.block b (HO6.out.lt b hb).2 (fun e => by
              have e2 : b = gh := by simpa [Value.ownBlock, eq_comm] using hb
              exact hFgh (e2 ▸ e)))
            have hat := hcs_at hlt
            have r0 := hOj.cells (g := gh) rfl _ _ hat.1
            have r1 := hOj.cells (g := gh) rfl _ _ hat.2
            rw [add_lit] at r0 r1
            obtain ⟨hx1, it0, hf0, hdt, hx2⟩ := Sp.Pl.dirt_mem (List.getElem_mem hlt)
            obtain ⟨hid, _, _⟩ := HIN.out _ hx1
            have hfj := Sp.Pl.wash_find p (((p.dirt q).take j).map (·.1)) (p.dirt q)[j].1
            rw [hf0, Option.map_some] at hfj
            have hws : Hid ((p.wash (((p.dirt q).take j).map (·.1))).upd (p.dirt q)[j].1 (fun x => { x with dirty := false, from_ := 0 }) = p.wash (((p.dirt q).take (j + 1)).map (·.1))) := by
              show _ = _
              rw [Sp.Pl.wash_snoc, List.take_succ_eq_append_getElem hlt, List.map_append]
              rfl
            obtain ⟨it, hite⟩ : ∃ it : Sp.It, it = if it0.page.id ∈ ((p.dirt q).take j).map (·.1) then { it0 with dirty := false, from_ := 0 } else it0 := ⟨_, rfl⟩
            rw [← hite] at hfj
            have hmeas : j + 1 ≤ (p.dirt q).length := hlt
            have hj8 := H8.out
            clear hat hOj hite hf0 hdt hx2 hx1
            generalize (p.dirt q)[j] = xx at *
            obtain ⟨id, bts⟩ := xx
            dsimp only at *
            generalize p.wash (((p.dirt q).take j).map (·.1)) = pj at *
            obtain ⟨hit, rfl⟩ := Sp.Pl.find_mem hfj
            have hba := (Below.refl wr.heap.size wr).alloc (Nat.le_refl _) (.cells #[u32v it.page.id, str bts] 180)
            have hpa := hpj.keep hba.size (fun b hb => hba.block b (hpj.lt b hb))
            have hta := htj.alloc (.cells #[u32v it.page.id, str bts] 180)
            have hxa := Blk.new wr 180 #[u32v it.page.id, str bts]
            go_wp2_with fail
            obtain ⟨w7, hw7⟩ : ∃ w7, w7 = wr.alloc (.cells #[u32v it.page.id, str bts] 180) := ⟨_, rfl⟩
            rw [← hw7] at hpa hta hxa hba ⊢
            obtain ⟨g15, hg15⟩ : ∃ g, g = wr.heap.size := ⟨_, rfl⟩
            rw [← hg15] at hxa ⊢
            clear hw7 hg15 r0 r1 hpj htj
            obtain ⟨c0, c1', c2, c3, c4, c5', c6, c7⟩ := hpa.cells
            have hlk := (hpa.keep (w' := w7.drew) (Nat.le_refl _) (fun _ _ => rfl)).look hid hfj
            have hlt9 := hpa.wf.idx_lt hit
            have cx := hxa.cell 0
            simp only [List.getElem?_toArray, List.getElem?_cons_zero] at cx
            have hS := Lib.hid (show w7.drew.cell? ⟨gp, 4, none⟩ = some (.slice (some ⟨fb, 0, none⟩) pj.n pj.n) ∧ w7.drew.cell? ⟨gp, 6, none⟩ = some (.map (some mb)) ∧ w7.drew.cell? ⟨g15, 0, none⟩ = some (u32v it.page.id) ∧
              (Instr.lookup 119 (.map (some mb)) (u32v it.page.id) false).run Tryz.prog w7.drew = .ok (.int .i64 it.idx) w7.drew from ⟨c4, c6, cx, hlk⟩)
            clear c0 c1' c2 c3 c4 c5' c6 c7 cx hlk
            refine R_begin (fun W => W.cell? ⟨gp, 4, none⟩ = some (.slice (some ⟨fb, 0, none⟩) pj.n pj.n) ∧ W.cell? ⟨gp, 6, none⟩ = some (.map (some mb)) ∧ W.cell? ⟨g15, 0, none⟩ = some (u32v it.page.id) ∧
              (Instr.lookup 119 (.map (some mb)) (u32v it.page.id) false).run Tryz.prog W = .ok (.int .i64 it.idx) W) (fun _ => false) rfl ?_
            refine R_tk 0 95 hS.out ?_
            refine R_tk 1 96 hS.out ?_
            refine R_tk 2 97 hS.out ?_
            refine R_tk 3 98 hS.out ?_
            simp only [List.setIfInBounds_toArray, List.set_cons_zero, List.set_cons_succ]
            refine R_tk 4 99 hS.out ?_
            refine R_tk 5 100 hS.out ?_
            refine R_tk 6 101 hS.out ?_
            refine R_tk 7 102 hS.out ?_
            simp only [List.setIfInBounds_toArray, List.set_cons_zero, List.set_cons_succ]
            refine R_tk 8 103 hS.out ?_
            refine R_tk 9 104 hS.out ?_
            simp only [List.setIfInBounds_toArray, List.set_cons_zero, List.set_cons_succ]
            refine R_tk 10 105 hS.out ?_
            simp only [List.setIfInBounds_toArray, List.set_cons_zero, List.set_cons_succ]
            refine R_tk 11 106 hS.out ?_
            simp only [List.setIfInBounds_toArray, List.set_cons_zero, List.set_cons_succ]
            refine R_tk 12 16 hS.out ?_
            simp only [List.setIfInBounds_toArray, List.set_cons_zero, List.set_cons_succ]
            refine R_done (by kernel_rfl) ?_ _
            rename_i K9 hK9
            refine hK9 _ _ ?_
            clear hK9 hS
            have hpd := hpa.keep (w' := w7.drew) (Nat.le_refl _) (fun _ _ => rfl)
            obtain ⟨A9, c9, _, _, hc9⟩ := hpd.fr.item it hit
            have k7 := (hpd.fr.blk.cell (it.idx * 9 + 7)).trans (hc9 7 (by omega))
            have k8 := (hpd.fr.blk.cell (it.idx * 9 + 8)).trans (hc9 8 (by omega))
            simp only [frCells, List.getElem?_cons_succ, List.getElem?_cons_zero] at k7 k8
            have z7 := hpd.pins_frozen (it.idx * 9 + 7)
            have z8 := hpd.pins_frozen (it.idx * 9 + 8)
            have hFfb := hpd.foot.2.1
            have HWA := Lib.hid (hpd.washed hit)
            have HTA := Lib.hid (((hta.drew).setCell (p := ⟨fb, it.idx * 9 + 7, none⟩) (.inl hFfb) (.bool false)).setCell (p := ⟨fb, it.idx * 9 + 8, none⟩) (.inl hFfb) (.int .u64 0))
            rw [hws.out] at HWA
            obtain ⟨w8, hw8⟩ : ∃ w8, w8 = w7.drew := ⟨_, rfl⟩
            rw [← hw8] at k7 k8 z7 z8 HWA HTA ⊢
            clear hw8 hpd hpa hta hc9 hba hxa
            go_wp2_with fail
            go_roundw
            case rel => exact ⟨j + 1, _, hmeas, by go_num, HWA.out, HTA.out⟩
            case measure => simp [intOf]; omega
          · obtain rfl : j = (p.dirt q).length := by omega
            rw [List.take_length] at hpj
            have HPJ := Lib.hid hpj
            have hGn : ∀ b, D6 b → ¬ G b := fun b hD hG => by
              rcases hD6n b hD with h | h
              · exact HMEM.out.DG b h hG
              · have := hGin b hG; omega
            have hFn : ∀ b, F b → ¬ D6 b := fun b hF hD => by
              rcases hD6n b hD with h | h
              · exact HMEM.out.FD b hF h
              · have := hFin b hF; omega
            have HD9 := Lib.hid (HD6.out.keep (fun b hb => htj.block b (HD6.out.in_ b hb) (fun hF => hFn b hF hb)))
            have HG9 := Lib.hid (HG6.out.keep (fun b hb => htj.block b (HG6.out.in_ b hb) (fun hF => HMEM.out.FG b hF hb)))
            have HTJ := Lib.hid (HTW6.out.trans (htj.wider (F := fun b => allF F D6 G b ∨ b = gx) (F' := fun b => allF F D6 G b ∨ b = gx) (fun b hb => .inl (.inl hb)) (fun b hb => .inl hb)))
            clear hpj htj
            go_wp2_with fail
            go_ret
            exact ⟨0, D6, _, _, _, _, rfl, .inr (.inr ⟨HDI.out, htop, rfl, rfl, rfl, rfl⟩), fun h => absurd rfl h, ⟨HPJ.out, HD9.out, HG9.out, hFn, HMEM.out.FG, hGn⟩, HTJ.out⟩
      · have HFO := Lib.hid (log_force_bad HLG.out (Nat.lt_of_not_le htop))
        have hdt : decide (l.next < p.topOf q) = true := by rw [decide_eq_true_iff]; omega
        go_wp2_with fail
        refine HFO.out.mono ?_
        rintro e w5 ⟨rfl, hb5⟩
        have h5p := Lib.hid (H2.out.keep hb5.size (fun b hb => hb5.block b (H2.out.lt b hb)))
        have h5d := Lib.hid (HDK.out.below hb5)
        have h5g := Lib.hid (HLG.out.below hb5)
        have h5t := Lib.hid (HTW.out.trans (Turns.of_below hb5 _))
        clear hb5
        go_wp2_with fail
        go_ret
        exact ⟨2, D, cs, p, d, l, rfl, .inr (.inl ⟨HDI.out, by omega, rfl, rfl, rfl, rfl⟩), fun _ => rfl, ⟨h5p.out, h5d.out, h5g.out, HMEM.out.FD, HMEM.out.FG, HMEM.out.DG⟩, h5t.out⟩

theorem Sp.Pl.dirt_nil {p : Sp.Pl} {q : List Nat} (hin : ∀ n ∈ q, ∃ it, p.find n = some it) (h : p.dirt q = []) : ∀ n ∈ q, ∃ it, p.find n = some it ∧ it.dirty = false := fun n hn => by
  obtain ⟨it, hf⟩ := hin n hn
  refine ⟨it, hf, ?_⟩
  have h2 : q.filter p.isD = [] := by
    have := congrArg (List.map (·.1)) h
    rwa [Sp.Pl.dirt_ids] at this
  have := List.filter_eq_nil_iff.1 h2 n hn
  unfold Sp.Pl.isD at this
  rw [hf] at this
  simpa using this

/-- writes, whatever is dirty. -/
theorem pool_writes {F D G R : Foot} {w : World} {gp gd gl at_ base fb cb mb s r : Nat} {v : Value} {cs : Array Value} {fl ids : List Nat} {p : Sp.Pl} {d : Sp.Dk} {l : Sp.Lg} (h : Mem F D G R w gp gd gl at_ base fb cb mb v s r cs fl ids p d l) (ok : DkLg at_ base d l)
    {ql : List Nat} {gx cap : Nat} {xs : Array Value} (hb : Blk w gx 25 xs) (hgx : ¬ allF F D G gx) (hl : ql.length ≤ 12) (hxs : ∀ j, j < ql.length → xs[j]? = some (u32v ql[j]!))
    (hin : ∀ n ∈ ql, n < 4294967296 ∧ Sp.inside d.sure.length at_ base n ∧ ∃ it, p.find n = some it) (hnd : ql.Nodup) (h8 : (p.dirt (Sp.sorted ql)).length ≤ 8) :
    Calls Tryz.prog 141 #[ptr gp, .slice (some ⟨gx, 0, none⟩) ql.length cap] w (WrtPost F D G R w gp gd gl at_ base fb cb mb v s r fl ids p d l gx (Sp.sorted ql)) := by
  by_cases hdirt : p.dirt (Sp.sorted ql) = []
  · have hperm := (Sp.sorted_spec ql).1
    have hc := Sp.Pl.dirt_nil (fun n hn => (hin n (hperm.mem_iff.1 hn)).2.2) hdirt
    refine (pool_writes_clean h.pl hb (fun e => hgx (.inl e)) hl hxs (fun n hn => ⟨(hin n hn).1, hc n (hperm.mem_iff.2 hn)⟩)).mono ?_
    rintro e w' ⟨rfl, ht⟩
    have hk : ∀ b, allF F D G b → b < w.heap.size → w'.heap[b]? = w.heap[b]? := fun b hb hlt => ht.block b hlt (fun e => hgx (by have e : b = gx := e; rw [← e]; exact hb))
    exact ⟨0, D, cs, p, d, l, rfl, .inl ⟨hdirt, rfl, rfl, rfl, rfl⟩, fun _ => rfl, ⟨h.pl.keep ht.size (fun b hb => hk b (.inl hb) (h.pl.lt b hb)), h.dk.keep (fun b hb => hk b (.inr (.inl hb)) (h.dk.in_ b hb)), h.lg.keep (fun b hb => hk b (.inr (.inr hb)) (h.lg.in_ b hb)), h.FD, h.FG, h.DG⟩,
      ht.wider (fun b hb => .inr hb) (fun b hb => .inl hb)⟩
  · exact pool_writes_dirty h ok hb hgx hl hxs hin hnd h8 hdirt
end Go.Proofs.YtclpmkinjjhncaaGreat

/- The walks of package pool: drops of a page, by what writes leaves. -/
namespace Go.Proofs.YtclpmkinjjhncaaGreat
open Go.RowKit Go.Conc

/-- What writes of one page leaves: an error, or what Y says. -/
def WritesPost (Y : Sp.Pl → Foot → World → Prop) (E : Nat → World → Prop) (H F R : Foot) (gp gd gl at_ base fb cb mb s r : Nat) (v : Value) (fl ids : List Nat) (it : Sp.It) (gx : Nat) (W : World) (e : Ending) (w' : World) : Prop :=
  (∃ c : Nat, c ≠ 0 ∧ e = .returned (.int .i64 c) ∧ E c w') ∨
  e = .returned (.int .i64 0) ∧ ∃ (H' : Foot) (p2 : Sp.Pl) (it2 : Sp.It) (cs2 : Array Value), IsPlAt F R w' gp gd gl at_ base fb cb mb v s r cs2 fl ids p2 ∧ p2.find it.page.id = some it2 ∧ it2.idx = it.idx ∧ p2.free = fl ∧
    Turns (fun b => H b ∨ b = gx) (fun b => H' b ∨ b = gx) W w' ∧ (∀ b, F b → H' b) ∧ Y p2 H' w'
def DropsPost (Y : Sp.Pl → Foot → World → Prop) (E : Nat → World → Prop) (H F R : Foot) (w : World) (gp gd gl at_ base fb cb mb s r : Nat) (ids : List Nat) (id : Nat) (e : Ending) (w' : World) : Prop :=
  (∃ c : Nat, c ≠ 0 ∧ e = .returned (.int .i64 c) ∧ E c w') ∨
  e = .returned (.int .i64 0) ∧ ∃ (H' : Foot) (p2 : Sp.Pl) (it2 : Sp.It) (w2 : World) (F' : Foot) (v' : Value) (cs' : Array Value), p2.find id = some it2 ∧ Y p2 H' w2 ∧ Turns H H' w w2 ∧ (∀ b, F b → H' b) ∧
    IsPlAt F' R w' gp gd gl at_ base fb cb mb v' (s + 1) r cs' (p2.free ++ [it2.idx]) (ids.filter (fun x => !(x == id))) (p2.drop id it2.idx) ∧ Turns F F' w2 w'

set_option maxRecDepth 100000 in
set_option maxHeartbeats 4000000 in
theorem pool_drops {F R H : Foot} {w : World} {gp gd gl at_ base fb cb mb s r : Nat} {v : Value} {cs : Array Value} {ids : List Nat} {p : Sp.Pl} (h : IsPlAt F R w gp gd gl at_ base fb cb mb v s r cs p.free ids p)
    {id : Nat} (hid : id < 4294967296) {it : Sp.It} (hfp : p.find id = some it) (hHl : ∀ b, H b → b < w.heap.size) (Y : Sp.Pl → Foot → World → Prop) (E : Nat → World → Prop)
    (hW : ∀ W gx, Below w.heap.size w W → w.heap.size ≤ gx → Blk W gx 25 #[u32v id] → Calls Tryz.prog 141 #[ptr gp, .slice (some ⟨gx, 0, none⟩) 1 1] W (WritesPost Y E H F R gp gd gl at_ base fb cb mb s r v p.free ids it gx W)) :
    Calls Tryz.prog 144 #[ptr gp, u32v id] w (DropsPost Y E H F R w gp gd gl at_ base fb cb mb s r ids id) := by
  have hfi := (Sp.Pl.find_mem hfp).2
  refine calls_of_wpN Tryz.func144 rfl ?_
  simp only [Tryz.ntmps144, List.size_toArray, List.length_cons, List.length_nil, Nat.reduceAdd, Nat.reduceSub, Array.replicate_succ, Array.replicate_zero, List.push_toArray, List.append_toArray, List.nil_append, List.cons_append]
  have hb0 := Blk.new w 25 #[u32v id]
  have h0 := h.keep (w' := w.alloc (.cells #[u32v id] 25)) (by simp) (fun b hb => Below.heap_alloc w _ b (h.lt b hb))
  have hbw := (Below.refl w.heap.size w).alloc (Nat.le_refl _) (.cells #[u32v id] 25)
  have hFl0 := h.lt
  refine wpN_seq_k ?_
  intro K hK
  go_wp2_with fail
  have hl0 : w.heap.size ≤ w.heap.size := Nat.le_refl _
  obtain ⟨w1, hw1⟩ : ∃ w1, w1 = w.alloc (.cells #[u32v id] 25) := ⟨_, rfl⟩
  rw [← hw1] at h0 hb0 hbw ⊢
  obtain ⟨b3, hb3⟩ : ∃ b3, b3 = w.heap.size := ⟨_, rfl⟩
  rw [← hb3] at hb0 ⊢
  have hl3 : w.heap.size ≤ b3 := by omega
  clear hw1 hb3 hl0
  have HB0 := Lib.hid hb0
  have c3 := hb0.cell 0
  simp only [List.getElem?_toArray, List.getElem?_cons_zero] at c3
  -- region 1 to 3: writes
  have hb1 := Blk.new w1 25 #[u32v id]
  have hbw1 := hbw.alloc hbw.size (.cells #[u32v id] 25)
  have HWR := Lib.hid (hW _ w1.heap.size hbw1 hbw.size hb1)
  have hz1 : w.heap.size ≤ w1.heap.size := hbw.size
  clear h0 hb0 hb1 hbw
  refine wpN_seq_k ?_
  intro K hK
  go_wp2_with fail
  refine HWR.out.mono ?_
  rintro e w2 (⟨c4, hc4, rfl, hE⟩ | ⟨rfl, H', p2, it2, cs2, h2, hf, hix, hfr2, ht2, hFH, hY⟩)
  · have dc : ((c4 : Int) != 0) = true := by simpa using hc4
    go_wp2_with fail
    go_ret
    exact .inl ⟨c4, hc4, rfl, hE⟩
  have hbl3 : b3 < w1.heap.size := HB0.out.lt
  have hn2 : Turns H H' w w2 := by
    have hz := hbw1.size
    refine ⟨ht2.os.trans hbw1.os, ht2.tape.trans hbw1.tape, ht2.output.trans hbw1.output, Nat.le_trans hz ht2.size, fun b hb hn => ?_, fun b hb => ?_⟩
    · rw [ht2.block b (by omega) (fun e => by rcases e with e | e; exact hn e; omega)]
      exact hbw1.block b hb
    · rcases ht2.foot b (.inl hb) with (e | e) | e
      · exact .inl e
      · exact .inr (by omega)
      · exact .inr (by omega)
  have hb2 := (HB0.out.alloc (.cells #[u32v id] 25)).turns ht2 (fun e => by rcases e with e | e; have := hHl b3 e; omega; omega)
  rw [hfi] at hf
  have hF3 : ∀ b, F b → b ≠ b3 := fun b hb e => by have := hFl0 b hb; omega
  have hFl := h2.lt
  have HH := Lib.hid (⟨hY, hn2, hFH⟩ : Y p2 H' w2 ∧ Turns H H' w w2 ∧ ∀ b, F b → H' b)
  have ht20 := Turns.refl F w2
  obtain ⟨hit, rfl⟩ := Sp.Pl.find_mem hf
  have hn2 : Turns noFoot noFoot w2 w2 := Turns.refl _ _
  clear ht2 HWR HB0 c3 hbw1 hfp hfi hY hFH hW h
  rw [← hfr2] at h2
  clear hfr2 hix
  go_wp2_with fail
  have hkd := fun (W : World) (hs : w2.heap.size ≤ W.heap.size) (hk : ∀ b, F b → W.heap[b]? = w2.heap[b]?) => (h2.keep hs hk).look hid hf
  obtain ⟨c0, c1, c2, c3, c4, c5, c6, c7⟩ := h2.cells
  have cb3 := hb2.cell 0
  simp only [List.getElem?_toArray, List.getElem?_cons_zero] at cb3
  have hS := Lib.hid (⟨c6, cb3, hkd w2.drew (Nat.le_refl _) (fun _ _ => rfl)⟩ : w2.drew.cell? ⟨gp, 6, none⟩ = some (.map (some mb)) ∧ w2.drew.cell? ⟨b3, 0, none⟩ = some (u32v it2.page.id) ∧
      (Instr.lookup 119 (.map (some mb)) (u32v it2.page.id) false).run Tryz.prog w2.drew = .ok (.int .i64 it2.idx) w2.drew)
  clear hkd c0 c1 c2 c3 c4 c5 c6 c7 cb3
  refine wpN_seq_k ?_
  intro K hK
  refine R_begin (fun W => W.cell? ⟨gp, 6, none⟩ = some (.map (some mb)) ∧ W.cell? ⟨b3, 0, none⟩ = some (u32v it2.page.id) ∧
      (Instr.lookup 119 (.map (some mb)) (u32v it2.page.id) false).run Tryz.prog W = .ok (.int .i64 it2.idx) W) (fun _ => false) rfl ?_
  refine R_take 0 14 (v := ?_) rfl rfl (by rfl) (by kernel_rfl) (fun _ _ _ h => h) hS.out ?_ ?_
  rotate_left
  · intro w hSw; (try dsimp only at hSw); go_simp; (try with_reducible rfl)
  simp only [List.setIfInBounds_toArray, List.set_cons_zero, List.set_cons_succ]
  refine R_take 1 15 (v := ?_) rfl rfl (by rfl) (by kernel_rfl) (fun _ _ _ h => h) hS.out ?_ ?_
  rotate_left
  · intro w hSw; (try dsimp only at hSw); go_simp; (try with_reducible rfl)
  simp only [List.setIfInBounds_toArray, List.set_cons_zero, List.set_cons_succ]
  refine R_take 2 16 (v := ?_) rfl rfl (by rfl) (by kernel_rfl) (fun _ _ _ h => h) hS.out ?_ ?_
  rotate_left
  · intro w hSw; (try dsimp only at hSw); go_simp; (try with_reducible rfl)
  simp only [List.setIfInBounds_toArray, List.set_cons_zero, List.set_cons_succ]
  refine R_take 3 17 (v := ?_) rfl rfl (by rfl) (by kernel_rfl) (fun _ _ _ h => h) hS.out ?_ ?_
  rotate_left
  · intro w hSw; (try dsimp only at hSw); go_simp; (try with_reducible rfl)
  simp only [List.setIfInBounds_toArray, List.set_cons_zero, List.set_cons_succ]
  refine R_take 4 18 (v := ?_) rfl rfl (by rfl) (by kernel_rfl) (fun _ _ _ h => h) hS.out ?_ ?_
  rotate_left
  · intro w hSw; (try dsimp only at hSw); go_simp; (try with_reducible rfl)
  simp only [List.setIfInBounds_toArray, List.set_cons_zero, List.set_cons_succ]
  refine R_take 5 19 (v := ?_) rfl rfl (by rfl) (by kernel_rfl) (fun _ _ _ h => h) hS.out ?_ ?_
  rotate_left
  · intro w hSw; (try dsimp only at hSw); go_simp; (try with_reducible rfl)
  simp only [List.setIfInBounds_toArray, List.set_cons_zero, List.set_cons_succ]
  refine R_take 6 6 (v := ?_) rfl rfl (by rfl) (by kernel_rfl) (fun _ _ _ h => h) hS.out ?_ ?_
  rotate_left
  · intro w hSw; (try dsimp only at hSw); go_simp; (try with_reducible rfl)
  simp only [List.setIfInBounds_toArray, List.set_cons_zero, List.set_cons_succ]
  refine R_done (by kernel_rfl) ?_ _
  refine hK _ _ ?_
  have h3 := h2.keep (w' := w2.drew) (Nat.le_refl _) (fun _ _ => rfl)
  have hb3' := hb2.drew
  have hn3 := hn2.drew
  obtain ⟨w3, hw3⟩ : ∃ w3, w3 = w2.drew := ⟨_, rfl⟩
  rw [← hw3] at h3 hb3' hn3 ⊢
  clear hw3 hS h2 hb2 hn2 hK K
  -- region 5: the frame is made empty
  obtain ⟨c0, c1, c2, c3, c4, c5, c6, c7⟩ := h3.cells
  have hbz : ∀ W, (Instr.build 123 #[]).run Tryz.prog W = .ok (.agg zeroFr.toArray) W := fun W => by kernel_rfl
  have hlt9 := h3.wf.idx_lt hit
  have hn64 := h3.wf.n64
  have H3 := Lib.hid h3
  have hcs := h3.fr.size
  clear c0 c1 c2 c3 c5 c6 c7 h3
  have hB3 := H3.out.fr.blk
  have HST := run_storeVar_part (P := Tryz.prog) w3 fb (it2.idx * 9) 123 123 cs2 zeroFr.toArray hB3 fr_size (by rw [hcs]; show it2.idx * 9 + 9 ≤ p2.n * 9; omega) (by simp [zeroFr, Value.oneCell'])
  refine wpN_seq_k ?_
  intro K hK
  go_wp2_with (first | ((with_reducible refine wpList_skip (w' := w3.setRow fb (partRow cs2 (it2.idx * 9) zeroFr)) rfl rfl ?_ ?_); exact run_op_store _ _ _ ⟨fb, it2.idx * 9, none⟩ (.agg zeroFr.toArray) rfl rfl rfl HST))
  clear HST
  obtain ⟨f1, f2, f3, f4, f5⟩ := H3.out.foot
  obtain ⟨n1, n2, n3, n4, n5, n6⟩ := H3.out.ne
  obtain ⟨o1, o2, o3, o4⟩ := H3.out.own_ne
  have hB4 := hB3.setRow (partRow cs2 (it2.idx * 9) zeroFr)
  have hk4 : ∀ b, b ≠ fb → (w3.setRow fb (partRow cs2 (it2.idx * 9) zeroFr)).heap[b]? = w3.heap[b]? := fun b hb => setRow_other w3 fb b _ hb
  have ht4 := (Turns.refl F w3).setRow (g := fb) (.inl f2) (partRow cs2 (it2.idx * 9) zeroFr)
  have hb34 : b3 ≠ fb := fun e => hF3 fb f2 e.symm
  have hb4' := hb3'.keep (hk4 b3 hb34)
  have hP4 := H3.out.blk.keep (hk4 gp n1)
  have hM4 := H3.out.map.keep (hk4 mb (Ne.symm n5))
  obtain ⟨w4, hw4⟩ : ∃ w4, w4 = w3.setRow fb (partRow cs2 (it2.idx * 9) zeroFr) := ⟨_, rfl⟩
  rw [← hw4] at hB4 hk4 ht4 hb4' hP4 hM4 ⊢
  clear hw4
  -- region 6: delete
  have c6 := hP4.cell 6
  simp only [plCells, List.getElem?_toArray, List.getElem?_cons_succ, List.getElem?_cons_zero] at c6
  have cb3 := hb4'.cell 0
  simp only [List.getElem?_toArray, List.getElem?_cons_zero] at cb3
  have hS := Lib.hid (⟨c6, cb3⟩ : w4.drew.cell? ⟨gp, 6, none⟩ = some (.map (some mb)) ∧ w4.drew.cell? ⟨b3, 0, none⟩ = some (u32v it2.page.id))
  clear c6 cb3
  refine wpN_seq_k ?_
  intro K hK
  refine R_begin (fun W => W.cell? ⟨gp, 6, none⟩ = some (.map (some mb)) ∧ W.cell? ⟨b3, 0, none⟩ = some (u32v it2.page.id)) (fun _ => false) rfl ?_
  refine R_take 0 27 (v := ?_) rfl rfl (by rfl) (by kernel_rfl) (fun _ _ _ h => h) hS.out ?_ ?_
  rotate_left
  · intro w hSw; (try dsimp only at hSw); go_simp; (try with_reducible rfl)
  simp only [List.setIfInBounds_toArray, List.set_cons_zero, List.set_cons_succ]
  refine R_take 1 28 (v := ?_) rfl rfl (by rfl) (by kernel_rfl) (fun _ _ _ h => h) hS.out ?_ ?_
  rotate_left
  · intro w hSw; (try dsimp only at hSw); go_simp; (try with_reducible rfl)
  simp only [List.setIfInBounds_toArray, List.set_cons_zero, List.set_cons_succ]
  refine R_take 2 29 (v := ?_) rfl rfl (by rfl) (by kernel_rfl) (fun _ _ _ h => h) hS.out ?_ ?_
  rotate_left
  · intro w hSw; (try dsimp only at hSw); go_simp; (try with_reducible rfl)
  simp only [List.setIfInBounds_toArray, List.set_cons_zero, List.set_cons_succ]
  refine R_take 3 30 (v := ?_) rfl rfl (by rfl) (by kernel_rfl) (fun _ _ _ h => h) hS.out ?_ ?_
  rotate_left
  · intro w hSw; (try dsimp only at hSw); go_simp; (try with_reducible rfl)
  simp only [List.setIfInBounds_toArray, List.set_cons_zero, List.set_cons_succ]
  refine R_take 4 31 (v := ?_) rfl rfl (by rfl) (by kernel_rfl) (fun _ _ _ h => h) hS.out ?_ ?_
  rotate_left
  · intro w hSw; (try dsimp only at hSw); go_simp; (try with_reducible rfl)
  simp only [List.setIfInBounds_toArray, List.set_cons_zero, List.set_cons_succ]
  obtain ⟨w5, hdel, hM5, hg5⟩ := UMap.del (w := w4.drew) hM4.drew Tryz.underlying25 Tryz.underlying119 hid (i := it2.idx) (by simp [Sp.Pl.lk, hf]) 0
  have hP5 := hP4.drew.grown hg5 (fun e => n3 (by injection e))
  have hbm : b3 ≠ mb := fun e => hF3 mb f4 e.symm
  have hb5 := hb4'.drew.grown hg5 (fun e => hbm (by injection e))
  have ht5 := ht4.drew.grown hg5 (fun k hk => .inl (by injection hk with hk; rw [← hk]; exact f4))
  have hB5 := hB4.drew.grown hg5 (fun e => n5 (by injection e))
  refine R_store 5 (n := .value (.tuple #[])) (w' := w5) rfl rfl (by rfl) (by kernel_rfl) (by go_simp) (.inr ⟨_, rfl⟩) (fun _ => ⟨(hP5.cell 6).trans rfl, (hb5.cell 0).trans rfl⟩) ?_
  refine R_done (by kernel_rfl) ?_ _
  refine hK _ _ ?_
  have hsz9 : it2.idx * 9 + 9 ≤ cs2.size := by omega
  have h5 := H3.out.drop (w' := w5) hit ht5.size (fun b hb h1 h2 => (hg5.block b (by have := H3.out.lt b hb; have := ht4.size; simp; omega) (fun e => h2 (by injection e))).trans (hk4 b h1)) hB5 (Framed.part rfl hsz9) (fun j hj => part_at rfl hsz9 hj) hM5
  have hc5 := h5.chan
  have hrow5 := h5.row
  have hF5 := h5.lt
  have c7 := hP5.cell 7
  have f7 := hP5.frozen 7
  simp only [plCells, List.getElem?_toArray, List.getElem?_cons_succ, List.getElem?_cons_zero] at c7
  have hn3v : v.ownBlock ≠ some b3 := fun e => hF3 b3 (f5 b3 e) rfl
  have HDR := Lib.hid (delete_row (w := w5) (asks_drops it2.page.id b3) hrow5 hb5 hn3v)
  have H5 := Lib.hid h5
  have hlen := H3.out.wf.len
  have hit1 : 0 < p2.items.length := List.length_pos_of_mem hit
  clear h5 hrow5 hdel hg5 hM5 hM4 hP4 hb4' ht4 hB4 hk4 hB3 hb3' hS hK K hB5 hc5 c4 hb5
  refine wpN_seq_k ?_
  intro K hK
  go_wp2_with fail
  refine HDR.out.mono ?_
  rintro e w6 ⟨v', rfl, r1, r2, r3⟩
  have ht6 : Turns F F w3 w6 := ht5.grown r2 (fun k hk => .inl (f5 k hk))
  have hP6 := hP5.grown r2 (fun e => o1 e.symm)
  have c7 := hP6.cell 7
  have f7 := hP6.frozen 7
  simp only [plCells, List.getElem?_toArray, List.getElem?_cons_succ, List.getElem?_cons_zero] at c7
  have hrd := Lib.hid (H5.out.rowed (w' := w6.setCell ⟨gp, 7, none⟩ v') (v' := v') (ids' := ids.filter (fun x => !(x == it2.page.id))) (by have := r2.size; simpa [World.setCell] using this)
    (fun b hb h1 h2 => (Below.heap_setCell w6 _ _ b h1).trans (r2.block b (hF5 b hb) (fun e => h2 e.symm))) (hP6.set_ 7 v')
    (row_keep r1 (fun b hb => Below.heap_setCell w6 _ _ b (fun e => o1 (by rw [r3 b hb, e])))) (fun b hb => .inl (r3 b hb)))
  have ht7 := ht6.setCell (p := ⟨gp, 7, none⟩) (.inl f1) v'
  obtain ⟨Av, nv, cv, rfl⟩ : ∃ A n c, v' = .slice A n c := by
    rcases r1.2 with ⟨h0, _⟩ | ⟨g6, c6, _, h0, _⟩
    · exact ⟨_, _, _, h0⟩
    · exact ⟨_, _, _, h0⟩
  clear r1 r2 HDR hP6 hP5 H5 H3 ht6
  go_wp2_with fail
  obtain ⟨w7, hw7⟩ : ∃ w7, w7 = w6.setCell ⟨gp, 7, none⟩ (.slice Av nv cv) := ⟨_, rfl⟩
  rw [← hw7] at hrd ht7 ⊢
  clear hw7
  have hc7 := hrd.out.chan
  obtain ⟨c0, c1, c2, c3, c4, c5, c6, c7'⟩ := hrd.out.cells
  clear c0 c1 c2 c3 c4 c6 c7'
  refine wpN_seq ?_
  refine wpN_region ?_
  change wpT _ _ _ [0, 1, 2, 3, 4, 5] _ _
  refine T_value 0 41 (v := ptr gp) (w' := w7) rfl rfl (by rfl) (by go_simp) ?_
  simp only [List.setIfInBounds_toArray, List.set_cons_zero, List.set_cons_succ]
  refine T_value 1 42 (v := ptr gp) (w' := w7) rfl rfl (by rfl) (by go_simp) ?_
  simp only [List.setIfInBounds_toArray, List.set_cons_zero, List.set_cons_succ]
  refine T_value 2 43 (v := .pointer (some ⟨gp, 5, none⟩)) (w' := w7) rfl rfl (by rfl) (by go_simp) ?_
  simp only [List.setIfInBounds_toArray, List.set_cons_zero, List.set_cons_succ]
  refine T_value 3 44 (v := .chan (some cb)) (w' := w7) rfl rfl (by rfl) (by go_simp) ?_
  simp only [List.setIfInBounds_toArray, List.set_cons_zero, List.set_cons_succ]
  refine T_value 4 45 (v := .int .i64 it2.idx) (w' := w7) rfl rfl (by rfl) (by go_simp) ?_
  simp only [List.setIfInBounds_toArray, List.set_cons_zero, List.set_cons_succ]
  refine T_send 5 (c := cb) (cap := p2.n) (buf := (p2.free.map fun (i : Nat) => Value.int .i64 (i : Int)).toArray) (s := s) (r := r) (tm := false) (v := .int .i64 it2.idx) (z := .tuple #[]) (w' := w7) rfl rfl (by rfl) (by simp [execOp, scase, Act.eval]) hc7 (by simp; omega) ?_
  refine T_done ?_
  simp only [Exit.then]
  refine wpN_of_wp ?_
  have hch := hrd.out.chans (fl' := p2.free ++ [it2.idx]) (s' := s + 1) (r' := r)
  change IsPlAt _ _ (w7.setChan cb p2.n _ _ _ _ _) _ _ _ _ _ _ _ _ _ _ _ _ _ _ _ at hch
  have hgr := grown_setChan w7 cb p2.n ((p2.free ++ [it2.idx]).map fun (i : Nat) => Value.int .i64 (i : Int)).toArray false (s + 1) r false
  have ht8 := ht7.grown hgr (fun k hk => .inl (by injection hk with hk; rw [← hk]; exact f3))
  have eb : ((p2.free.map fun (i : Nat) => Value.int .i64 (i : Int)).toArray).push (.int .i64 (it2.idx : Int)) = ((p2.free ++ [it2.idx]).map fun (i : Nat) => Value.int .i64 (i : Int)).toArray := by simp
  rw [eb]
  have HCH := Lib.hid hch
  clear hch hgr hrd hc7 ht7 eb
  generalize w7.setChan cb p2.n ((p2.free ++ [it2.idx]).map fun (i : Nat) => Value.int .i64 (i : Int)).toArray false (s + 1) r false = w8 at *
  go_wp2_with fail
  go_ret
  obtain ⟨hY, hn0, hFH⟩ := HH.out
  refine .inr ⟨rfl, H', p2, it2, w2, _, _, _, hf, hY, hn0, hFH, HCH.out, ?_⟩
  have hn3z := hn3.size
  refine ⟨ht8.os.trans hn3.os, ht8.tape.trans hn3.tape, ht8.output.trans hn3.output, Nat.le_trans hn3z ht8.size, fun b hb hn => ?_, fun b hb => ?_⟩
  · rw [ht8.block b (by omega) hn]; exact hn3.block b hb (fun e => e)
  · rcases hb with hb | hb
    · exact .inl hb
    · exact .inl (f5 b (r3 b hb))
end Go.Proofs.YtclpmkinjjhncaaGreat

/- drops and take of a pool with its disk and its log. -/
namespace Go.Proofs.YtclpmkinjjhncaaGreat
open Go.RowKit Go.Conc

theorem sorted_one (n : Nat) : Sp.sorted [n] = [n] := List.perm_singleton.1 (Sp.sorted_spec [n]).1

theorem Wrote.keep {at_ base : Nat} {p p' : Sp.Pl} {d d' : Sp.Dk} {l l' : Sp.Lg} {q : List Nat} {c : Nat} (h : Wrote at_ base p d l q c p' d' l') :
    p'.free = p.free ∧ p'.n = p.n ∧ p'.items.map (·.page.id) = p.items.map (·.page.id) ∧ (c ≠ 0 → p' = p ∧ d' = d ∧ l' = l) ∧ ∀ n it, p.find n = some it → ∃ it', p'.find n = some it' ∧ it'.idx = it.idx ∧ it'.pins = it.pins ∧ it'.page = it.page := by
  rcases h with ⟨_, rfl, rfl, rfl, rfl⟩ | ⟨_, _, rfl, rfl, rfl, rfl⟩ | ⟨_, _, rfl, rfl, rfl, rfl⟩
  · exact ⟨rfl, rfl, rfl, fun h => absurd rfl h, fun n it hf => ⟨it, hf, rfl, rfl, rfl⟩⟩
  · exact ⟨rfl, rfl, rfl, fun _ => ⟨rfl, rfl, rfl⟩, fun n it hf => ⟨it, hf, rfl, rfl, rfl⟩⟩
  · refine ⟨rfl, rfl, Sp.Pl.wash_ids p _, fun h => absurd rfl h, fun n it hf => ?_⟩
    rw [Sp.Pl.wash_find, hf]
    refine ⟨_, rfl, ?_⟩
    dsimp only
    split <;> exact ⟨rfl, rfl, rfl⟩
theorem Wrote.drop {at_ base : Nat} {p p' : Sp.Pl} {d d' : Sp.Dk} {l l' : Sp.Lg} {n : Nat} {c : Nat} (h : Wrote at_ base p d l [n] c p' d' l') (i : Nat) : p'.drop n i = p.drop n i := by
  rcases h with ⟨_, rfl, rfl, rfl, rfl⟩ | ⟨_, _, rfl, rfl, rfl, rfl⟩ | ⟨_, _, rfl, rfl, rfl, rfl⟩
  · rfl
  · rfl
  · have hD : ∀ x ∈ (p.dirt [n]).map (·.1), x = n := fun x hx => by
      rw [Sp.Pl.dirt_ids] at hx
      simpa using (List.mem_filter.1 hx).1
    generalize (p.dirt [n]).map (·.1) = D at hD
    unfold Sp.Pl.drop Sp.Pl.wash
    simp only [Sp.Pl.mk.injEq, true_and, and_true]
    induction p.items with
    | nil => rfl
    | cons x xs ih =>
      rw [List.map_cons]
      by_cases hx : x.page.id = n
      · rw [List.filter_cons_of_neg (by split <;> simp [hx]), List.filter_cons_of_neg (by simp [hx])]
        exact ih
      · rw [if_neg (fun h => hx (hD _ h)), List.filter_cons_of_pos (by simpa using hx), List.filter_cons_of_pos (by simpa using hx), ih]

def DropsM (F D G R : Foot) (w : World) (gp gd gl at_ base fb cb mb : Nat) (v : Value) (s r : Nat) (ids : List Nat) (p : Sp.Pl) (d : Sp.Dk) (l : Sp.Lg) (it : Sp.It) (e : Ending) (w' : World) : Prop :=
  ∃ (c : Nat) (p2 : Sp.Pl) (d' : Sp.Dk) (l' : Sp.Lg), e = .returned (.int .i64 c) ∧ Wrote at_ base p d l [it.page.id] c p2 d' l' ∧
    ((c ≠ 0 ∧ ∃ (cs' : Array Value), Mem F D G R w' gp gd gl at_ base fb cb mb v s r cs' p.free ids p d l ∧ Turns (allF F D G) (allF F D G) w w') ∨
     (c = 0 ∧ ∃ (F' D' : Foot) (v' : Value) (cs' : Array Value), Mem F' D' G R w' gp gd gl at_ base fb cb mb v' (s + 1) r cs' (p.free ++ [it.idx]) (ids.filter (fun x => !(x == it.page.id))) (p.drop it.page.id it.idx) d' l' ∧ Turns (allF F D G) (allF F' D' G) w w'))

theorem Mem.below {F D G R : Foot} {w w' : World} {gp gd gl at_ base fb cb mb s r : Nat} {v : Value} {cs : Array Value} {fl ids : List Nat} {p : Sp.Pl} {d : Sp.Dk} {l : Sp.Lg} (h : Mem F D G R w gp gd gl at_ base fb cb mb v s r cs fl ids p d l) (hb : Below w.heap.size w w') :
    Mem F D G R w' gp gd gl at_ base fb cb mb v s r cs fl ids p d l :=
  ⟨h.pl.keep hb.size (fun b hF => hb.block b (h.pl.lt b hF)), h.dk.below hb, h.lg.below hb, h.FD, h.FG, h.DG⟩
theorem Mem.lt {F D G R : Foot} {w : World} {gp gd gl at_ base fb cb mb s r : Nat} {v : Value} {cs : Array Value} {fl ids : List Nat} {p : Sp.Pl} {d : Sp.Dk} {l : Sp.Lg} (h : Mem F D G R w gp gd gl at_ base fb cb mb v s r cs fl ids p d l) : ∀ b, allF F D G b → b < w.heap.size := fun b hb => by
  rcases hb with h1 | h1 | h1
  · exact h.pl.lt b h1
  · exact h.dk.in_ b h1
  · exact h.lg.in_ b h1

theorem drops_mem {F D G R : Foot} {w : World} {gp gd gl at_ base fb cb mb s r : Nat} {v : Value} {cs : Array Value} {ids : List Nat} {p : Sp.Pl} {d : Sp.Dk} {l : Sp.Lg} (h : Mem F D G R w gp gd gl at_ base fb cb mb v s r cs p.free ids p d l) (ok : DkLg at_ base d l)
    {it : Sp.It} (hit : it ∈ p.items) (hins : Sp.inside d.sure.length at_ base it.page.id) :
    Calls Tryz.prog 144 #[ptr gp, u32v it.page.id] w (DropsM F D G R w gp gd gl at_ base fb cb mb v s r ids p d l it) := by
  have hid : it.page.id < 4294967296 := (h.pl.wf.pg it hit).1.2.2.1
  have hf := Sp.Pl.find_of h.pl.wf hit
  refine (pool_drops (H := allF F D G) h.pl hid hf h.lt
    (fun p2 H' w2 => ∃ (D' : Foot) (d' : Sp.Dk) (l' : Sp.Lg), H' = allF F D' G ∧ Wrote at_ base p d l [it.page.id] 0 p2 d' l' ∧ IsDk D' w2 gd d' ∧ IsLg G w2 gl gd l' ∧ (∀ b, F b → ¬ D' b) ∧ (∀ b, D' b → ¬ G b))
    (fun c w' => ∃ (cs' : Array Value) (p2 : Sp.Pl) (d' : Sp.Dk) (l' : Sp.Lg), Wrote at_ base p d l [it.page.id] c p2 d' l' ∧ Mem F D G R w' gp gd gl at_ base fb cb mb v s r cs' p.free ids p d l ∧ Turns (allF F D G) (allF F D G) w w')
    (fun W gx hb hgx hX => ?_)).mono ?_
  · have hM := h.below hb
    have hnx : ¬ allF F D G gx := fun e => by have := h.lt gx e; omega
    have h1 := pool_writes (ql := [it.page.id]) (cap := 1) hM ok hX hnx (by simp) (fun j hj => by
      have : j = 0 := by simpa using hj
      subst this; rfl) (fun n hn => by
      rw [List.mem_singleton.1 hn]
      exact ⟨hid, hins, it, hf⟩) (by simp) (by rw [sorted_one]; have := Sp.Pl.dirt_len p [it.page.id]; simp at this ⊢; omega)
    rw [sorted_one] at h1
    refine h1.mono ?_
    rintro e w' ⟨c, D', cs', p', d', l', rfl, hWr, hDD, hM', ht⟩
    obtain ⟨k1, k2, k3, k4, k5⟩ := hWr.keep
    by_cases hc : c = 0
    · subst hc
      obtain ⟨it2, hf2, hi2, _, _⟩ := k5 _ _ hf
      exact .inr ⟨rfl, allF F D' G, p', it2, cs', hM'.pl, hf2, hi2, k1, ht, fun b hb => .inl hb, D', d', l', rfl, hWr, hM'.dk, hM'.lg, hM'.FD, hM'.DG⟩
    · obtain ⟨e1, e2, e3⟩ := k4 hc
      have hDe := hDD hc
      subst hDe
      rw [e1, e2, e3] at hM'
      refine .inl ⟨c, hc, rfl, cs', p', d', l', hWr, hM', ⟨ht.os.trans hb.os, ht.tape.trans hb.tape, ht.output.trans hb.output, Nat.le_trans hb.size ht.size, fun b hb1 hn => ?_, fun b hb1 => ?_⟩⟩
      · have := hb.size
        rw [ht.block b (by omega) (fun e => e.elim hn (fun e => by omega))]
        exact hb.block b hb1
      · rcases ht.foot b (.inl hb1) with (e | e) | e
        · exact .inl e
        · exact .inr (by omega)
        · exact .inr (Nat.le_trans hb.size e)
  · rintro e w' (⟨c, hc, rfl, cs', p2, d', l', hWr, hM', ht⟩ | ⟨rfl, H', p2, it2, w2, F', v', cs', hf2, ⟨D', d', l', rfl, hWr, hD', hG', hFD', hDG'⟩, ht, _, hpl, ht2⟩)
    · exact ⟨c, p2, d', l', rfl, hWr, .inl ⟨hc, cs', hM', ht⟩⟩
    · obtain ⟨k1, k2, k3, k4, k5⟩ := hWr.keep
      obtain ⟨it3, hf3, hi3, _, _⟩ := k5 _ _ hf
      rw [hf2] at hf3
      injection hf3 with hf3
      subst hf3
      rw [hi3, k1, hWr.drop] at hpl
      have hF'n : ∀ b, F' b → F b ∨ w2.heap.size ≤ b := ht2.foot
      refine ⟨0, p2, d', l', rfl, hWr, .inr ⟨rfl, F', D', v', cs', ⟨hpl, hD'.keep (fun b hb => ht2.block b (hD'.in_ b hb) (fun e => hFD' b e hb)), hG'.keep (fun b hb => ht2.block b (hG'.in_ b hb) (fun e => h.FG b e hb)), fun b h1 h2 => ?_, fun b h1 h2 => ?_, hDG'⟩, ?_⟩⟩
      · rcases hF'n b h1 with e | e
        · exact hFD' b e h2
        · have := hD'.in_ b h2; omega
      · rcases hF'n b h1 with e | e
        · exact h.FG b e h2
        · have := hG'.in_ b h2; omega
      · refine ⟨ht2.os.trans ht.os, ht2.tape.trans ht.tape, ht2.output.trans ht.output, Nat.le_trans ht.size ht2.size, fun b hb hn => ?_, fun b hb => ?_⟩
        · have := ht.size
          rw [ht2.block b (by omega) (fun e => hn (.inl e))]
          exact ht.block b hb hn
        · rcases hb with hb | hb | hb
          · rcases hF'n b hb with e | e
            · exact .inl (.inl e)
            · exact .inr (Nat.le_trans ht.size e)
          · exact ht.foot b (.inr (.inl hb))
          · exact .inl (.inr (.inr hb))

/-- What take leaves, where it finds a frame. -/
def TookS (at_ base : Nat) (p : Sp.Pl) (d : Sp.Dk) (l : Sp.Lg) (ids : List Nat) (p' : Sp.Pl) (ids' : List Nat) (d' : Sp.Dk) (l' : Sp.Lg) : Prop :=
  (p.free ≠ [] ∧ p' = p ∧ ids' = ids ∧ d' = d ∧ l' = l) ∨
  (p.free = [] ∧ ∃ pre it post p2, ids = pre ++ it.page.id :: post ∧ (∀ n ∈ pre, ∃ y, p.find n = some y ∧ 0 < y.pins) ∧ p.find it.page.id = some it ∧ it.pins = 0 ∧ Wrote at_ base p d l [it.page.id] 0 p2 d' l' ∧ p' = p.drop it.page.id it.idx ∧ ids' = ids.filter (fun x => !(x == it.page.id)))
/-- Where it finds none. -/
def TookE (at_ base : Nat) (p : Sp.Pl) (d : Sp.Dk) (l : Sp.Lg) (ids : List Nat) (c : Nat) : Prop :=
  p.free = [] ∧ ((c = 4 ∧ ∀ n ∈ ids, ∃ it, p.find n = some it ∧ 0 < it.pins) ∨
    ∃ pre it post p2 d' l', ids = pre ++ it.page.id :: post ∧ (∀ n ∈ pre, ∃ y, p.find n = some y ∧ 0 < y.pins) ∧ p.find it.page.id = some it ∧ it.pins = 0 ∧ c ≠ 0 ∧ Wrote at_ base p d l [it.page.id] c p2 d' l')
def ZM (G : Foot) (gd gl at_ base : Nat) (p : Sp.Pl) (d : Sp.Dk) (l : Sp.Lg) (ids : List Nat) : Nat → Sp.Pl → List Nat → Foot → Foot → World → Prop := fun _ p' ids' F' H' w' =>
  ∃ (D' : Foot) (d' : Sp.Dk) (l' : Sp.Lg), H' = allF F' D' G ∧ IsDk D' w' gd d' ∧ IsLg G w' gl gd l' ∧ (∀ b, F' b → ¬ D' b) ∧ (∀ b, F' b → ¬ G b) ∧ (∀ b, D' b → ¬ G b) ∧ TookS at_ base p d l ids p' ids' d' l'
def Z4M (F D G R : Foot) (w : World) (gp gd gl at_ base fb cb mb : Nat) (v : Value) (s r : Nat) (ids : List Nat) (p : Sp.Pl) (d : Sp.Dk) (l : Sp.Lg) : Nat → World → Prop := fun c w' =>
  TookE at_ base p d l ids c ∧ ∃ (cs' : Array Value), Mem F D G R w' gp gd gl at_ base fb cb mb v s r cs' p.free ids p d l ∧ Turns (allF F D G) (allF F D G) w w'

theorem take_mem {F D G R : Foot} {w : World} {gp gd gl at_ base fb cb mb s r : Nat} {v : Value} {cs : Array Value} {ids : List Nat} {p : Sp.Pl} {d : Sp.Dk} {l : Sp.Lg} (h : Mem F D G R w gp gd gl at_ base fb cb mb v s r cs p.free ids p d l) (ok : DkLg at_ base d l)
    (hids : ids = p.items.map (·.page.id)) (hins : ∀ it ∈ p.items, Sp.inside d.sure.length at_ base it.page.id) {id : Nat} (hf : p.find id = none) (W : World) (hb : Below w.heap.size w W) :
    Calls Tryz.prog 170 #[ptr gp] W (TookPost (ZM G gd gl at_ base p d l ids) (Z4M F D G R w gp gd gl at_ base fb cb mb v s r ids p d l) (allF F D G) R W gp gd gl at_ base fb cb mb id) := by
  have hW := h.below hb
  have hlen : ids.length ≤ 64 := by
    have := h.pl.wf.len; have := h.pl.wf.n64
    rw [hids, List.length_map]; omega
  have hids32 : ∀ it ∈ p.items, it.page.id < 4294967296 := fun it hit => (h.pl.wf.pg it hit).1.2.2.1
  cases hfr : p.free with
  | cons i rest =>
    refine (pool_take_free hW.pl hfr).mono ?_
    rintro e w' ⟨rfl, F', v', s', r', cs', h', ht⟩
    have hn : ∀ b, F' b → F b ∨ W.heap.size ≤ b := ht.foot
    refine .inr ⟨i, p, F', allF F' D G, v', s', r', cs', ids, rest, rfl, h', hfr, hf, ?_, fun _ h => .inl h, D, d, l, rfl, hW.dk.keep (fun b hb => ht.block b (hW.dk.in_ b hb) (fun e => h.FD b e hb)), hW.lg.keep (fun b hb => ht.block b (hW.lg.in_ b hb) (fun e => h.FG b e hb)), fun b h1 h2 => ?_, fun b h1 h2 => ?_, h.DG, .inl ⟨by simp [hfr], rfl, rfl, rfl, rfl⟩⟩
    · refine ht.wider (fun b hb => .inl hb) (fun b hb => ?_)
      rcases hb with hb | hb
      · exact .inr hb
      · exact .inl (.inr hb)
    · rcases hn b h1 with e | e
      · exact h.FD b e h2
      · have := hW.dk.in_ b h2; omega
    · rcases hn b h1 with e | e
      · exact h.FG b e h2
      · have := hW.lg.in_ b h2; omega
  | nil =>
    have hin : ∀ n ∈ ids, n < 4294967296 ∧ ∃ it, p.find n = some it := fun n hn => by
      rw [hids] at hn
      obtain ⟨it, hit, rfl⟩ := List.mem_map.1 hn
      exact ⟨hids32 it hit, it, Sp.Pl.find_of h.pl.wf hit⟩
    have hfold : ∀ W1, Turns noFoot noFoot W W1 → Below W.heap.size W W1 := fun W1 ht => ht.below_none
    refine (pool_take_scan hW.pl hfr hin hlen
      (fun it F' W1 w1 => ∃ (D' : Foot) (p2 : Sp.Pl) (d' : Sp.Dk) (l' : Sp.Lg), Wrote at_ base p d l [it.page.id] 0 p2 d' l' ∧ IsDk D' w1 gd d' ∧ IsLg G w1 gl gd l' ∧ (∀ b, F' b → ¬ D' b) ∧ (∀ b, F' b → ¬ G b) ∧ (∀ b, D' b → ¬ G b) ∧ Turns (allF F D G) (allF F' D' G) W1 w1)
      (fun c it W1 w1 => ∃ (cs' : Array Value) (p2 : Sp.Pl) (d' : Sp.Dk) (l' : Sp.Lg), Wrote at_ base p d l [it.page.id] c p2 d' l' ∧ Mem F D G R w1 gp gd gl at_ base fb cb mb v s r cs' p.free ids p d l ∧ Turns (allF F D G) (allF F D G) W1 w1)
      (fun it hit hp W1 h1 ht1 => ?_)).mono ?_
    · have hM1 := hW.below (hfold W1 ht1)
      refine (drops_mem hM1 ok hit (hins it hit)).mono ?_
      rintro e w' ⟨c, p2, d', l', rfl, hWr, ⟨hc, cs', hM', ht⟩ | ⟨rfl, F', D', v', cs', hM', ht⟩⟩
      · exact .inl ⟨c, hc, rfl, cs', p2, d', l', hWr, hM', ht⟩
      · exact .inr ⟨rfl, F', v', _, _, cs', hM'.pl, D', p2, d', l', hWr, hM'.dk, hM'.lg, hM'.FD, hM'.FG, hM'.DG, ht⟩
    · have hbz := hb.size
      rintro e w' (⟨rfl, hall, ht⟩ | ⟨pre, it, post, hsp, hpre, hfi, hp0, c, hc, rfl, W1, ht1, cs', p2, d', l', hWr, hM', ht⟩ | ⟨pre, it, post, hsp, hpre, hfi, hp0, rfl, W1, w1, F', v', s', r', cs', ht1, ⟨D', p2, d', l', hWr, hD', hG', hFD', hFG', hDG', ht⟩, h', ht2⟩)
      · refine .inl ⟨4, by decide, rfl, ⟨⟨hfr, .inl ⟨rfl, hall⟩⟩, cs, hW.below (hfold _ ht), (Turns.of_below hb _).trans (Turns.of_below (hfold _ ht) _)⟩, ht.wider (fun _ h => h.elim) (fun b hb => .inl hb)⟩
      · refine .inl ⟨c, hc, rfl, ⟨⟨hfr, .inr ⟨pre, it, post, p2, d', l', hsp, hpre, hfi, hp0, hc, hWr⟩⟩, cs', hM', (Turns.of_below hb _).trans ((Turns.of_below (hfold _ ht1) _).trans ht)⟩, ?_⟩
        have hx := (Turns.of_below (hfold _ ht1) (allF F D G)).trans ht
        exact ⟨hx.os, hx.tape, hx.output, hx.size, hx.block, fun b hb => .inl hb⟩
      · have hcb := h'.foot.2.2.1
        have htt := (Turns.of_below (hfold _ ht1) (allF F D G)).trans ht
        have hcbn : ∀ b, D' b ∨ G b → b ≠ cb := fun b hb e => by
          subst e
          rcases hb with hb | hb
          · exact hFD' b hcb hb
          · exact hFG' b hcb hb
        refine .inr ⟨it.idx, p.drop it.page.id it.idx, F', allF F' D' G, v', s', r', cs', _, [], rfl, h', ?_, ?_, ?_, fun _ h => .inl h, D', d', l', rfl, hD'.keep (fun b hb => ht2.block b (hD'.in_ b hb) (hcbn b (.inl hb))), hG'.keep (fun b hb => ht2.block b (hG'.in_ b hb) (hcbn b (.inr hb))), hFD', hFG', hDG', .inr ⟨hfr, pre, it, post, p2, hsp, hpre, hfi, hp0, hWr, rfl, rfl⟩⟩
        · simp [Sp.Pl.drop, hfr]
        · rw [Sp.Pl.find_none] at hf ⊢
          exact fun y hy => hf y (List.mem_filter.1 hy).1
        · refine ⟨ht2.os.trans htt.os, ht2.tape.trans htt.tape, ht2.output.trans htt.output, Nat.le_trans htt.size ht2.size, fun b hb hn => ?_, htt.foot⟩
          have hz := htt.size
          rw [ht2.block b (by omega) (fun e => by
            have e : b = cb := e
            rcases htt.foot cb (.inl hcb) with h | h
            · exact hn (e ▸ h)
            · omega)]
          exact htt.block b hb hn
end Go.Proofs.YtclpmkinjjhncaaGreat

/- A pool in memory on a disk laid out in whatever way, which has given pages from 1 on; what its calls do to the plain list. -/
namespace Go.Proofs.YtclpmkinjjhncaaGreat
open Go.RowKit

/-- How a disk is laid out: where the area of the twin is, where the homes, the last page, how many sectors. -/
structure Ly where
  at_ : Nat
  base : Nat
  top : Nat
  len : Nat
  fits : base + top * 4 + 4 ≤ len
  small : top < 1000

/-- Pages 1 to top are pages. -/
def PgOkT (ly : Ly) (pg : Nat → Sp.Pg) : Prop := ∀ q, 1 ≤ q → q ≤ ly.top → (pg q).wf ∧ (pg q).may ∧ (pg q).id = q
/-- A disk that has them. -/
structure DkT (ly : Ly) (pg : Nat → Sp.Pg) (dk : Sp.Dk) : Prop where
  len : dk.sure.length = ly.len
  loose : dk.loose = []
  fuse : dk.fuse = -1
  page : ∀ q, 1 ≤ q → q ≤ ly.top → Sp.pageAt dk.sure (ly.base + q * 4) = pgBytes (pg q)
def Sp.Pl.ofT (ly : Ly) (pg : Nat → Sp.Pg) (p : Sp.Pl) : Prop := ∀ it ∈ p.items, it.dirty = false ∧ it.page = pg it.page.id ∧ 1 ≤ it.page.id ∧ it.page.id ≤ ly.top

/-- A pool (block gp), its disk (block gd); the blocks of K are none of theirs. -/
def DgAt (ly : Ly) (pg : Nat → Sp.Pg) (K : Foot) (w : World) (gd gl gp n : Nat) (L : List (Nat × Nat)) : Prop :=
  PgOkT ly pg ∧ ∃ (p : Sp.Pl) (D F : Foot) (dk : Sp.Dk), IsDk D w gd dk ∧ DkT ly pg dk ∧ IsPl F w gp gd gl ly.at_ ly.base p ∧ p.n = n ∧ p.ofT ly pg ∧ p.abs = L ∧ (∀ b, D b → ¬ F b) ∧ (∀ b, D b ∨ F b → ¬ K b) ∧ (∀ b, K b → b < w.heap.size)

/-- The block of a page's rows, if it has any. -/
def rowK (A : Option Addr) (n : Nat) : Foot := fun b => 0 < n ∧ ∃ o, A = some ⟨b, o, none⟩
theorem rowK_of {G : Foot} {w : World} {A : Option Addr} {rows : List Sp.Bs} (h : RowsAt G w A rows) {b : Nat} (hb : rowK A rows.length b) : G b ∧ b < w.heap.size := by
  obtain ⟨hn, o, e⟩ := hb
  obtain ⟨b', o', e', hg, hl, _⟩ := h.2 hn
  rw [e'] at e
  injection e with e
  injection e with e1
  subst e1
  exact ⟨hg, hl⟩
theorem rowK_at {G : Foot} {w : World} {A : Option Addr} {rows : List Sp.Bs} (h : RowsAt G w A rows) : RowsAt (fun b => G b ∧ rowK A rows.length b) w A rows :=
  ⟨h.1, fun hn => by
    obtain ⟨b, o, e, hg, hl, hc⟩ := h.2 hn
    exact ⟨b, o, e, ⟨hg, hn, o, e⟩, hl, hc⟩⟩
theorem dg_make' {ly : Ly} {pg : Nat → Sp.Pg} {K K' : Foot} {w w' : World} {gd gl gp n : Nat} {p' : Sp.Pl} {D F F' : Foot} {dk : Sp.Dk} (hok : PgOkT ly pg) (hd : IsDk D w gd dk) (hlk : DkT ly pg dk) (hpl : IsPl F' w' gp gd gl ly.at_ ly.base p') (hn : p'.n = n) (hfr : p'.ofT ly pg) (hDF : ∀ b, D b → ¬ F b) (hK : ∀ b, D b ∨ F b → ¬ K b)
    (hb : ∀ b, K b → b < w.heap.size) (ht : Turns F F' w w') (hK' : ∀ b, K' b → K b ∨ (w.heap.size ≤ b ∧ b < w'.heap.size ∧ ¬ F' b)) : DgAt ly pg K' w' gd gl gp n p'.abs := by
  have hin := hd.in_
  refine ⟨hok, p', D, F', dk, hd.keep (fun b hD => ht.block b (hin b hD) (hDF b hD)), hlk, hpl, hn, hfr, rfl, fun b hD hF => ?_, fun b h hk => ?_, fun b h => ?_⟩
  · rcases ht.foot b hF with h | h
    · exact hDF b hD h
    · have := hin b hD; omega
  · rcases hK' b hk with hk | ⟨h1, h2, h3⟩
    · rcases h with h | h
      · exact hK b (.inl h) hk
      · rcases ht.foot b h with h | h
        · exact hK b (.inr h) hk
        · have := hb b hk; omega
    · rcases h with h | h
      · have := hin b h; omega
      · exact h3 h
  · rcases hK' b h with h | h
    · exact Nat.lt_of_lt_of_le (hb b h) ht.size
    · exact h.2.1
theorem dg_make {ly : Ly} {pg : Nat → Sp.Pg} {K : Foot} {w w' : World} {gd gl gp n : Nat} {p' : Sp.Pl} {D F F' : Foot} {dk : Sp.Dk} (hok : PgOkT ly pg) (hd : IsDk D w gd dk) (hlk : DkT ly pg dk) (hpl : IsPl F' w' gp gd gl ly.at_ ly.base p') (hn : p'.n = n) (hfr : p'.ofT ly pg) (hDF : ∀ b, D b → ¬ F b) (hK : ∀ b, D b ∨ F b → ¬ K b)
    (hb : ∀ b, K b → b < w.heap.size) (ht : Turns F F' w w') : DgAt ly pg K w' gd gl gp n p'.abs := by
  have hin := hd.in_
  refine ⟨hok, p', D, F', dk, hd.keep (fun b hD => ht.block b (hin b hD) (hDF b hD)), hlk, hpl, hn, hfr, rfl, fun b hD hF => ?_, fun b h hk => ?_, fun b h => Nat.lt_of_lt_of_le (hb b h) ht.size⟩
  · rcases ht.foot b hF with h | h
    · exact hDF b hD h
    · have := hin b hD; omega
  · rcases h with h | h
    · exact hK b (.inl h) hk
    · rcases ht.foot b h with h | h
      · exact hK b (.inr h) hk
      · have := hb b hk; omega

theorem dg_len {ly : Ly} {pg : Nat → Sp.Pg} {K : Foot} {w : World} {gd gl gp n : Nat} {L : List (Nat × Nat)} (h : DgAt ly pg K w gd gl gp n L) : L.length ≤ n ∧ (L.map (·.1)).Nodup ∧ ∀ x ∈ L, 1 ≤ x.1 ∧ x.1 ≤ ly.top := by
  obtain ⟨hok, p, D, F, dk, hd, hlk, hpl, rfl, hfr, rfl, hDF, hb0⟩ := h
  have hl := hpl.wf.len
  have hids := hpl.wf.ids
  refine ⟨by simp [Sp.Pl.abs]; omega, ?_, fun x hx => ?_⟩
  · have e1 : p.abs.map (·.1) = p.items.map (·.page.id) := by simp [Sp.Pl.abs, Function.comp]
    rw [e1]; exact hids
  · obtain ⟨it, hit, rfl⟩ := List.mem_map.1 hx
    exact ⟨(hfr it hit).2.2.1, (hfr it hit).2.2.2⟩

/-- The blocks made meanwhile are none of theirs. -/
theorem DgAt.more {ly : Ly} {pg : Nat → Sp.Pg} {K K' : Foot} {w w' : World} {gd gl gp n : Nat} {L : List (Nat × Nat)} (h : DgAt ly pg K w gd gl gp n L) (hb : Below w.heap.size w w') (hK : ∀ b, K' b → K b ∨ (w.heap.size ≤ b ∧ b < w'.heap.size)) : DgAt ly pg K' w' gd gl gp n L := by
  obtain ⟨hok, p, D, F, dk, hd, hlk, hpl, hn, hfr, hL, hDF, hb0, hKl⟩ := h
  have hin := hd.in_
  have hlt := hpl.lt
  refine ⟨hok, p, D, F, dk, hd.below hb, hlk, hpl.below hb, hn, hfr, hL, hDF, fun b h hk => ?_, fun b hk => ?_⟩
  · rcases hK b hk with h' | h'
    · exact hb0 b h h'
    · rcases h with h | h
      · have := hin b h; omega
      · have := hlt b h; omega
  · rcases hK b hk with h' | h'
    · exact Nat.lt_of_lt_of_le (hKl b h') hb.size
    · exact h'.2
theorem DgAt.below {ly : Ly} {pg : Nat → Sp.Pg} {K : Foot} {w w' : World} {gd gl gp n : Nat} {L : List (Nat × Nat)} (h : DgAt ly pg K w gd gl gp n L) (hb : Below w.heap.size w w') : DgAt ly pg K w' gd gl gp n L := h.more hb (fun _ h => .inl h)
theorem DgAt.lt {ly : Ly} {pg : Nat → Sp.Pg} {K : Foot} {w : World} {gd gl gp n : Nat} {L : List (Nat × Nat)} (h : DgAt ly pg K w gd gl gp n L) : ∀ b, K b → b < w.heap.size := by
  obtain ⟨_, p, D, F, dk, _, _, _, _, _, _, _, _, h⟩ := h
  exact h

/-- What Pin answers, and leaves. -/
def PinDg (ly : Ly) (pg : Nat → Sp.Pg) (K : Foot) (w : World) (gd gl gp n : Nat) (L : List (Nat × Nat)) (k : Nat) (e : Ending) (w' : World) : Prop :=
  Kept K w w' ∧ ((Sp.aPin n L k = none ∧ e = .returned (.tuple #[zeroPgV, .int .i64 4]) ∧ DgAt ly pg K w' gd gl gp n L) ∨
    ∃ L' A c, Sp.aPin n L k = some L' ∧ e = .returned (.tuple #[pgV (pg k) A c, .int .i64 0]) ∧ OkAddr A ∧ RowsAt (fun b => w.heap.size ≤ b ∧ rowK A (pg k).rows.length b) w' A (pg k).rows ∧ DgAt ly pg (fun b => K b ∨ rowK A (pg k).rows.length b) w' gd gl gp n L')

theorem dg_pin {ly : Ly} {pg : Nat → Sp.Pg} {K : Foot} {w : World} {gd gl gp n : Nat} {L : List (Nat × Nat)} (h : DgAt ly pg K w gd gl gp n L) {k : Nat} (h1 : 1 ≤ k) (hT : k ≤ ly.top) (hs : ∀ x ∈ L, x.2 < 1000000) :
    Calls Tryz.prog 41 #[ptr gp, u32v k] w (PinDg ly pg K w gd gl gp n L k) := by
  obtain ⟨hok, p, D, F, dk, hd, hlk, hpl, rfl, hfr, rfl, hDF, hb0, hKl⟩ := h
  have hwf := hpl.wf
  cases hf : p.find k with
  | some it =>
    obtain ⟨hit, hk⟩ := Sp.Pl.find_mem hf
    have hpg : it.page = pg k := by rw [← hk]; exact (hfr it hit).2.1
    have hsm := hs (it.page.id, it.pins) (List.mem_map.2 ⟨it, hit, rfl⟩)
    have hsm : it.pins < 1000000 := hsm
    refine (pool_pin_in' hpl (by have := ly.small; omega) hf (by omega)).mono ?_
    rintro e w' ⟨F', A, c, rfl, hA, hR, h', ht⟩
    rw [hpg] at hR ⊢
    have hfr' : ((p.pinUp k).last k).ofT ly pg := fun y hy => by
      have hy' := (Sp.Pl.last_perm (p.pinUp k) k).mem_iff.1 hy
      obtain ⟨x, hx, rfl⟩ := Sp.Pl.upd_mem hy'
      split <;> exact hfr x hx
    refine ⟨Kept.of_turns ht (fun b hk => ⟨hKl b hk, fun hF => hb0 b (.inr hF) hk⟩), .inr ⟨Sp.aUp p.abs k, A, c, ?_, rfl, hA, (rowK_at hR).mono (fun b hb => ⟨hb.1.1, hb.2⟩), ?_⟩⟩
    · unfold Sp.aPin
      rw [if_pos (Sp.aHas_iff.2 (by rw [hf]; rfl))]
    · rw [← Sp.abs_last]
      exact dg_make' hok hd hlk h' rfl hfr' hDF hb0 hKl ht (fun b hb => hb.imp id (fun hb => by
        obtain ⟨h1, h2⟩ := rowK_of hR hb
        exact ⟨h1.1, h2, h1.2⟩))
  | none =>
    have hno : Sp.aHas p.abs k = false := by
      cases ha : Sp.aHas p.abs k with
      | false => rfl
      | true => rw [Sp.aHas_iff, hf] at ha; cases ha
    have hid : (pg k).id = k := (hok k h1 hT).2.2
    have hlen : p.abs.length = p.items.length := by simp [Sp.Pl.abs]
    have hwl := hwf.len
    have HC := pool_pin_out' (x := pg k) hpl (fun it hit => (hfr it hit).1) ⟨(hok k h1 hT).1, (hok k h1 hT).2.1⟩ (by rw [hid]; exact hf) hd (by rw [hlk.fuse]; decide) hlk.loose (by rw [hlk.len, hid]; have := ly.fits; omega) (by rw [hid]; exact hlk.page k h1 hT)
    rw [hid] at HC
    refine HC.mono ?_
    rintro e w' (⟨rfl, hfree, hall, h', ht⟩ | ⟨F', A, c, p', i, rest, rfl, hA, hR, hfree, hnone, h', ht, hp'⟩)
    · refine ⟨Kept.of_turns ht (fun b hk => ⟨hKl b hk, fun hF => hb0 b (.inr hF) hk⟩), .inl ⟨?_, rfl, dg_make hok hd hlk h' rfl hfr hDF hb0 hKl ht⟩⟩
      unfold Sp.aPin
      rw [hfree, List.length_nil] at hwl
      rw [hno, if_neg (by simp), if_neg (by omega), Sp.aDrop_none _ (fun y hy => by
        obtain ⟨it, hit, rfl⟩ := List.mem_map.1 hy
        exact hall it hit)]
      rfl
    · have hsub : ∀ y ∈ p'.items, y ∈ p.items := by
        rcases hp' with rfl | ⟨_, pre, it, post, _, _, _, rfl⟩
        · exact fun y hy => hy
        · exact fun y hy => (List.mem_filter.1 hy).1
      have hfr' : ((p'.bring (pg k) i rest).pinUp k).ofT ly pg := fun y hy => by
        obtain ⟨x, hx, rfl⟩ := Sp.Pl.upd_mem hy
        have hx' : x.dirty = false ∧ x.page = pg x.page.id ∧ 1 ≤ x.page.id ∧ x.page.id ≤ ly.top := by
          rcases List.mem_append.1 hx with hx | hx
          · exact hfr x (hsub x hx)
          · rw [List.mem_singleton.1 hx]
            exact ⟨rfl, by rw [hid], by rw [hid]; exact h1, by rw [hid]; exact hT⟩
        split <;> exact hx'
      have hpn : p'.n = p.n := by
        rcases hp' with rfl | ⟨_, pre, it, post, _, _, _, rfl⟩ <;> rfl
      have habs : Sp.aPin p.n p.abs k = some (p'.abs ++ [(k, 1)]) := by
        unfold Sp.aPin
        rw [hno, if_neg (by simp)]
        rcases hp' with rfl | ⟨hf0, pre, it, post, hsp, hpre, hp0, rfl⟩
        · rw [hfree, List.length_cons] at hwl
          rw [if_pos (by omega)]
        · rw [hf0, List.length_nil] at hwl
          rw [if_neg (by omega), Sp.abs_drop hwf hsp]
          unfold Sp.Pl.abs
          rw [hsp, List.map_append, List.map_cons, Sp.aDrop_split _ _ _ (fun y hy => by
            obtain ⟨z, hz, rfl⟩ := List.mem_map.1 hy
            exact hpre z hz) hp0, List.map_append]
          rfl
      refine ⟨Kept.of_turns ht (fun b hk => ⟨hKl b hk, fun hF => hb0 b (.inr hF) hk⟩), .inr ⟨_, A, c, habs, rfl, hA, (rowK_at hR).mono (fun b hb => ⟨hb.1.1, hb.2⟩), ?_⟩⟩
      have ha := Sp.abs_bring (x := pg k) (i := i) (rest := rest) (by rw [hid]; exact hnone)
      rw [hid] at ha
      rw [← ha]
      exact dg_make' hok hd hlk h' hpn hfr' hDF hb0 hKl ht (fun b hb => hb.imp id (fun hb => by
        obtain ⟨h1, h2⟩ := rowK_of hR hb
        exact ⟨h1.1, h2, h1.2⟩))

theorem dg_unpin {ly : Ly} {pg : Nat → Sp.Pg} {K : Foot} {w : World} {gd gl gp n : Nat} {L : List (Nat × Nat)} (h : DgAt ly pg K w gd gl gp n L) {k m : Nat} (hk : k < 4294967296) (hm : (k, m) ∈ L) (h0 : 1 ≤ m) :
    Calls Tryz.prog 40 #[ptr gp, u32v k] w fun e w' => e = .returned (.int .i64 0) ∧ Kept K w w' ∧ DgAt ly pg K w' gd gl gp n (Sp.aUnpin L k) := by
  obtain ⟨hok, p, D, F, dk, hd, hlk, hpl, rfl, hfr, rfl, hDF, hb0, hKl⟩ := h
  obtain ⟨it, hit, e⟩ := List.mem_map.1 hm
  injection e with e1 e2
  have hf := Sp.Pl.find_of hpl.wf hit
  rw [e1] at hf
  refine (pool_unpin hpl hk hf (by omega)).mono ?_
  rintro e w' ⟨rfl, h', ht⟩
  refine ⟨rfl, Kept.of_turns ht (fun b hk => ⟨hKl b hk, fun hF => hb0 b (.inr hF) hk⟩), ?_⟩
  rw [← Sp.abs_unpin]
  refine dg_make hok hd hlk h' rfl (fun y hy => ?_) hDF hb0 hKl ht
  obtain ⟨x, hx, rfl⟩ := Sp.Pl.upd_mem hy
  split <;> exact hfr x hx

/-- Where nothing is pinned a page can be pinned, and unpinned. -/
theorem Sp.aPin_zero' {n : Nat} (hn : 1 ≤ n) {L : List (Nat × Nat)} {k : Nat} (hz : ∀ x ∈ L, x.2 = 0) (hl : L.length ≤ n) :
    ∃ L', Sp.aPin n L k = some L' ∧ (k, 1) ∈ L' ∧ ∀ x ∈ Sp.aUnpin L' k, x.2 = 0 := by
  unfold Sp.aPin
  by_cases ha : Sp.aHas L k = true
  · rw [if_pos ha]
    refine ⟨_, rfl, ?_, fun x hx => ?_⟩
    · unfold Sp.aHas at ha
      obtain ⟨y, hy, e⟩ := List.any_eq_true.1 ha
      have e' : y.1 = k := by simpa using e
      refine List.mem_append.2 (.inr (List.mem_map.2 ⟨y, List.mem_filter.2 ⟨hy, e⟩, ?_⟩))
      rw [hz y hy, e']
    · obtain ⟨y, hy, rfl⟩ := List.mem_map.1 hx
      rcases List.mem_append.1 hy with h | h
      · have h0 := hz y (List.mem_filter.1 h).1
        split
        · show y.2 - 1 = 0; omega
        · exact h0
      · obtain ⟨z, hz', rfl⟩ := List.mem_map.1 h
        have h0 := hz z (List.mem_filter.1 hz').1
        have e' : z.1 = k := by simpa using (List.mem_filter.1 hz').2
        rw [if_pos e']
        show z.2 + 1 - 1 = 0; omega
  · rw [if_neg ha]
    have fin : ∀ M : List (Nat × Nat), (∀ x ∈ M, x.2 = 0) → (k, 1) ∈ M ++ [(k, 1)] ∧ ∀ x ∈ Sp.aUnpin (M ++ [(k, 1)]) k, x.2 = 0 := fun M hM => by
      refine ⟨by simp, fun x hx => ?_⟩
      obtain ⟨y, hy, rfl⟩ := List.mem_map.1 hx
      rcases List.mem_append.1 hy with h | h
      · have h0 := hM y h
        split
        · show y.2 - 1 = 0; omega
        · exact h0
      · rw [List.mem_singleton.1 h, if_pos rfl]; rfl
    by_cases hlt : L.length < n
    · rw [if_pos hlt]
      exact ⟨_, rfl, (fin L hz).1, (fin L hz).2⟩
    · rw [if_neg hlt]
      cases L with
      | nil => simp at hlt; omega
      | cons x M =>
        have e : Sp.aDrop (x :: M) = some M := by unfold Sp.aDrop; rw [if_pos (hz x (by simp))]
        rw [e]
        exact ⟨_, rfl, (fin M (fun y hy => hz y (by simp [hy]))).1, (fin M (fun y hy => hz y (by simp [hy]))).2⟩

/-- A pool of n frames on the given pages, none of them pinned. -/
def DzAt (ly : Ly) (pg : Nat → Sp.Pg) (K : Foot) (w : World) (gd gl gp n : Nat) : Prop := 1 ≤ n ∧ ∃ L, DgAt ly pg K w gd gl gp n L ∧ ∀ x ∈ L, x.2 = 0
theorem DzAt.more {ly : Ly} {pg : Nat → Sp.Pg} {K K' : Foot} {w w' : World} {gd gl gp n : Nat} (h : DzAt ly pg K w gd gl gp n) (hb : Below w.heap.size w w') (hK : ∀ b, K' b → K b ∨ (w.heap.size ≤ b ∧ b < w'.heap.size)) : DzAt ly pg K' w' gd gl gp n := by
  obtain ⟨h1, L, h, hz⟩ := h
  exact ⟨h1, L, h.more hb hK, hz⟩
theorem DzAt.below {ly : Ly} {pg : Nat → Sp.Pg} {K : Foot} {w w' : World} {gd gl gp n : Nat} (h : DzAt ly pg K w gd gl gp n) (hb : Below w.heap.size w w') : DzAt ly pg K w' gd gl gp n := h.more hb (fun _ h => .inl h)
theorem DzAt.lt {ly : Ly} {pg : Nat → Sp.Pg} {K : Foot} {w : World} {gd gl gp n : Nat} (h : DzAt ly pg K w gd gl gp n) : ∀ b, K b → b < w.heap.size := by
  obtain ⟨_, L, h, _⟩ := h
  exact h.lt
theorem DzAt.ok {ly : Ly} {pg : Nat → Sp.Pg} {K : Foot} {w : World} {gd gl gp n : Nat} (h : DzAt ly pg K w gd gl gp n) : PgOkT ly pg := by
  obtain ⟨_, L, h, _⟩ := h
  exact h.1
end Go.Proofs.YtclpmkinjjhncaaGreat

/- What a pool's calls answer and leave, by definition: plain words. No program is named here. -/
namespace Go.Proofs.YtclpmkinjjhncaaGreat.Sp

/-- A page that is in. -/
structure RI where
  page : Pg
  pins : Nat
  dirty : Bool
  from_ : Nat
def It.ri (it : It) : RI := ⟨it.page, it.pins, it.dirty, it.from_⟩
/-- A pool: the pages that are in, in the row's order; what the disk has; up to where the log is on the disk, where it ends; pages 1 to top have homes. -/
structure R15 where
  frames : Nat
  L : List RI
  disk : Nat → Pg
  forced : Nat
  next : Nat
  top : Nat
def hasR (L : List RI) (id : Nat) : Bool := L.any (fun x => x.page.id == id)
def getR? (L : List RI) (id : Nat) : Option RI := L.find? (fun x => x.page.id == id)
def isDirty (L : List RI) (id : Nat) : Bool := match getR? L id with
  | some x => x.dirty
  | none => false
/-- The highest LSN of the dirty ones among some pages. -/
def lsnOf (L : List RI) (ids : List Nat) : Nat := ids.foldl (fun m id => match getR? L id with
  | some x => if x.dirty then max m x.page.lsn else m
  | none => m) 0
def cleaned (ids : List Nat) (x : RI) : RI := if x.dirty = true ∧ x.page.id ∈ ids then { x with dirty := false, from_ := 0 } else x
/-- Pages that are in are written, those that are dirty. -/
def R15.write (s : R15) (ids : List Nat) : Nat × R15 :=
  if ids.all (fun id => !isDirty s.L id) = true then (0, s)
  else if s.next < lsnOf s.L ids then (2, s)
  else (0, { s with forced := if s.forced ≤ lsnOf s.L ids then s.next else s.forced, L := s.L.map (cleaned ids), disk := fun q => if q ∈ ids ∧ isDirty s.L q = true then ((getR? s.L q).map (·.page)).getD (s.disk q) else s.disk q })
def dropR (L : List RI) (id : Nat) : List RI := L.filter (fun x => x.page.id != id)
def R15.drop (s : R15) (id : Nat) : Nat × R15 :=
  let r := s.write [id]
  if r.1 ≠ 0 then r else (0, { r.2 with L := dropR r.2.L id })
/-- Room for one more. -/
def R15.room (s : R15) : Nat × R15 :=
  if s.L.length < s.frames then (0, s) else
  match s.L.find? (fun x => x.pins == 0) with
  | some x => s.drop x.page.id
  | none => (4, s)
def upR (L : List RI) (id : Nat) (f : RI → RI) : List RI := L.map fun x => if x.page.id = id then f x else x
/-- A page that is in, once more; it stands last. -/
def pinR (L : List RI) (id : Nat) : List RI := dropR L id ++ (L.filter (fun x => x.page.id == id)).map (fun x => { x with pins := x.pins + 1 })
def R15.pin (s : R15) (id : Nat) : Nat × Option Pg × R15 :=
  if hasR s.L id = true then (0, (getR? s.L id).map (·.page), { s with L := pinR s.L id })
  else if s.top < id then (2, none, s)
  else if id = 0 then (60, none, s)
  else
    let r := s.room
    if r.1 ≠ 0 then (r.1, none, r.2) else (0, some (s.disk id), { r.2 with L := pinR (r.2.L ++ [⟨s.disk id, 0, false, 0⟩]) id })
def R15.put (s : R15) (x : Pg) (may : Bool) : Nat × R15 :=
  if may = false then (2, s)
  else match getR? s.L x.id with
    | none => (3, s)
    | some y => if y.pins = 0 then (3, s) else (0, { s with L := upR s.L x.id (fun y => if y.dirty then { y with page := x } else { y with page := x, dirty := true, from_ := x.lsn }) })
def R15.unpin (s : R15) (id : Nat) : Nat × R15 :=
  match getR? s.L id with
  | none => (3, s)
  | some y => if y.pins = 0 then (3, s) else (0, { s with L := upR s.L id (fun y => { y with pins := y.pins - 1 }) })
def R15.evict (s : R15) (id : Nat) : Nat × R15 :=
  match getR? s.L id with
  | none => (3, s)
  | some y => if 0 < y.pins then (9, s) else s.drop id
end Go.Proofs.YtclpmkinjjhncaaGreat.Sp

/- A pool with its disk and its log, and the plain pool that it stands for: what writes, drops and take do to it. No walk. -/
namespace Go.Proofs.YtclpmkinjjhncaaGreat
open Go.RowKit Go.Conc

/-- A pool, its disk and its log stand for a plain pool. -/
structure Rep (ly : Ly) (p : Sp.Pl) (dk : Sp.Dk) (l : Sp.Lg) (s : Sp.R15) : Prop where
  wf : p.wf
  lwf : l.wf
  frames : s.frames = p.n
  L : s.L = p.items.map Sp.It.ri
  top : s.top = ly.top
  forced : s.forced = l.forced
  next : s.next = l.next
  ok : PgOkT ly s.disk
  dkt : DkT ly s.disk dk
  dl : DkLg ly.at_ ly.base dk l
  lo : l.at_ + l.n ≤ ly.at_
  area : ly.at_ + 33 ≤ ly.base
  tight : ly.len < ly.base + (ly.top + 1) * 4 + 4
  zero : Sp.pageAt dk.sure ly.base = Sp.zeros 512
  in_ : ∀ it ∈ p.items, 1 ≤ it.page.id ∧ it.page.id ≤ ly.top

theorem Rep.inside {ly : Ly} {p : Sp.Pl} {dk : Sp.Dk} {l : Sp.Lg} {s : Sp.R15} (h : Rep ly p dk l s) {n : Nat} (h1 : 1 ≤ n) (h2 : n ≤ ly.top) : Sp.inside dk.sure.length ly.at_ ly.base n := by
  have := h.dkt.len; have := ly.fits; have := h.area
  unfold Sp.inside; omega

namespace Sp
theorem getR_eq (p : Pl) (n : Nat) : getR? (p.items.map It.ri) n = (p.find n).map It.ri := by
  unfold getR? Pl.find
  rw [List.find?_map]
  rfl
theorem isDirty_eq (p : Pl) (n : Nat) : isDirty (p.items.map It.ri) n = p.isD n := by
  unfold isDirty Pl.isD
  rw [getR_eq]
  cases p.find n <;> rfl
theorem hasR_eq (p : Pl) (n : Nat) : hasR (p.items.map It.ri) n = (p.find n).isSome := by
  unfold hasR Pl.find
  rw [List.any_map, Bool.eq_iff_iff, List.any_eq_true, List.find?_isSome]
  rfl
theorem lsnOf_eq (p : Pl) (q : List Nat) : lsnOf (p.items.map It.ri) q = p.topOf q := by
  unfold lsnOf Pl.topOf
  have key : ∀ (q : List Nat) (m : Nat), q.foldl (fun m id => match getR? (p.items.map It.ri) id with
      | some x => if x.dirty then max m x.page.lsn else m
      | none => m) m = (q.filter p.isD).foldl (fun m n => max m (p.lsnAt n)) m := by
    intro q
    induction q with
    | nil => exact fun _ => rfl
    | cons n q ih =>
      intro m
      rw [List.foldl_cons, ih]
      rw [getR_eq]
      cases hf : p.find n with
      | none =>
        have e : p.isD n = false := by unfold Pl.isD; rw [hf]
        rw [List.filter_cons_of_neg (by rw [e]; decide)]
        rfl
      | some it =>
        have e : p.isD n = it.dirty := by unfold Pl.isD; rw [hf]
        cases hd : it.dirty with
        | false =>
          rw [List.filter_cons_of_neg (by rw [e, hd]; decide)]
          simp [It.ri, hd]
        | true =>
          rw [List.filter_cons_of_pos (by rw [e, hd]), List.foldl_cons]
          have e2 : p.lsnAt n = it.page.lsn := by unfold Pl.lsnAt; rw [hf]
          rw [e2]
          simp [It.ri, hd]
  exact key q 0
theorem dirt_nil_iff (p : Pl) (q : List Nat) : p.dirt q = [] ↔ q.all (fun id => !isDirty (p.items.map It.ri) id) = true := by
  rw [List.all_eq_true]
  have : p.dirt q = [] ↔ q.filter p.isD = [] := by rw [← Pl.dirt_ids, List.map_eq_nil_iff]
  rw [this, List.filter_eq_nil_iff]
  constructor
  · intro h x hx
    have := h x hx
    rw [isDirty_eq]
    simpa using this
  · intro h x hx
    have := h x hx
    rw [isDirty_eq] at this
    simpa using this
end Sp

/-- Pages written. -/
theorem Rep.wrote {ly : Ly} {p p' : Sp.Pl} {dk dk' : Sp.Dk} {l l' : Sp.Lg} {s : Sp.R15} {q : List Nat} {c : Nat} (h : Rep ly p dk l s) (hw : Wrote ly.at_ ly.base p dk l q c p' dk' l') (hq : ∀ n ∈ q, ∃ it, p.find n = some it) (hnd : q.Nodup) (h8 : (p.dirt q).length ≤ 8) :
    (s.write q).1 = c ∧ Rep ly p' dk' l' (s.write q).2 := by
  have hD := Sp.dirt_nil_iff p q
  have hT := Sp.lsnOf_eq p q
  rw [← h.L] at hD hT
  rcases hw with ⟨h1, rfl, rfl, rfl, rfl⟩ | ⟨h1, h2, rfl, rfl, rfl, rfl⟩ | ⟨h1, h2, rfl, rfl, rfl, rfl⟩
  · have e : s.write q = (0, s) := by unfold Sp.R15.write; rw [if_pos (hD.1 h1)]
    rw [e]; exact ⟨rfl, h⟩
  · have e : s.write q = (2, s) := by unfold Sp.R15.write; rw [if_neg (fun e => h1 (hD.2 e)), if_pos (by rw [hT, h.next]; exact h2)]
    rw [e]; exact ⟨rfl, h⟩
  · have hpm : ∀ x ∈ p.dirt q, x.2.length = 512 ∧ Sp.inside (dk.forceTo l (p.topOf q)).sure.length ly.at_ ly.base x.1 := fun x hx => by
      obtain ⟨hx1, it, hf, _, hx2⟩ := Sp.Pl.dirt_mem hx
      obtain ⟨hit, hide⟩ := Sp.Pl.find_mem hf
      rw [(Sp.Dk.forceTo_spec h.dl.loose h.dl.fuse h.lwf _).2.2.1, hx2]
      exact ⟨pgBytes_length (h.wf.pg it hit).2, by rw [← hide]; exact h.inside (h.in_ it hit).1 (h.in_ it hit).2⟩
    obtain ⟨f1, f2, f3, f4⟩ := Sp.Dk.forceTo_spec h.dl.loose h.dl.fuse h.lwf (p.topOf q)
    obtain ⟨t1, t2, t3, t4, t5⟩ := Sp.twin_many (dk.forceTo l (p.topOf q)) f1 f2 ly.at_ ly.base (p.dirt q) (by rw [Sp.Pl.dirt_ids]; exact hnd.filter _) h8 hpm
    have e : s.write q = (0, { s with forced := if s.forced ≤ Sp.lsnOf s.L q then s.next else s.forced, L := s.L.map (Sp.cleaned q), disk := fun n => if n ∈ q ∧ Sp.isDirty s.L n = true then ((Sp.getR? s.L n).map (·.page)).getD (s.disk n) else s.disk n }) := by
      unfold Sp.R15.write; rw [if_neg (fun e => h1 (hD.2 e)), if_neg (by rw [hT, h.next]; omega)]
    rw [e]
    have hfind : ∀ it ∈ p.items, p.find it.page.id = some it := fun it hit => Sp.Pl.find_of h.wf hit
    have hdk : ∀ n, (if n ∈ q ∧ Sp.isDirty s.L n = true then ((Sp.getR? s.L n).map (·.page)).getD (s.disk n) else s.disk n) = (if n ∈ (p.dirt q).map (·.1) then (match p.find n with | some it => it.page | none => s.disk n) else s.disk n) := fun n => by
      rw [h.L, Sp.isDirty_eq, Sp.getR_eq, Sp.Pl.dirt_ids]
      simp only [List.mem_filter]
      split
      · cases p.find n <;> rfl
      · rfl
    have hnew : ∀ n, n ∈ (p.dirt q).map (·.1) → ∃ it ∈ p.items, it.page.id = n ∧ p.find n = some it ∧ (n, pgBytes it.page) ∈ p.dirt q := fun n hn => by
      obtain ⟨x, hx, rfl⟩ := List.mem_map.1 hn
      obtain ⟨hx1, it, hf, _, hx2⟩ := Sp.Pl.dirt_mem hx
      obtain ⟨hit, hide⟩ := Sp.Pl.find_mem hf
      exact ⟨it, hit, hide, hf, by rw [← hx2]; exact hx⟩
    refine ⟨rfl, ⟨?_, Sp.Lg.forceTo_wf h.lwf _, h.frames, ?_, h.top, ?_, ?_, ?_, ?_, ?_, ?_, h.area, h.tight, ?_, ?_⟩⟩
    · have hf : ∀ (D : List Nat), (p.wash D).wf := fun D => by
        refine ⟨h.wf.n1, h.wf.n64, ?_, ?_, fun y hy => ?_, fun y hy => ?_⟩
        · have e : (p.wash D).items.map (·.idx) = p.items.map (·.idx) := by
            unfold Sp.Pl.wash
            rw [List.map_map]
            apply List.map_congr_left
            intro x _
            simp only [Function.comp]
            split <;> rfl
          rw [e]; exact h.wf.idx
        · rw [Sp.Pl.wash_ids]; exact h.wf.ids
        · obtain ⟨x, hx, rfl⟩ := List.mem_map.1 hy
          have := h.wf.pg x hx
          split <;> exact this
        · obtain ⟨x, hx, rfl⟩ := List.mem_map.1 hy
          have := h.wf.small x hx
          split
          · exact ⟨this.1, by simp⟩
          · exact this
      exact hf _
    · show s.L.map (Sp.cleaned q) = _
      rw [h.L]
      unfold Sp.Pl.wash
      rw [List.map_map, List.map_map]
      apply List.map_congr_left
      intro x hx
      simp only [Function.comp]
      have hdx : p.isD x.page.id = x.dirty := by unfold Sp.Pl.isD; rw [hfind x hx]
      rw [Sp.Pl.dirt_ids]
      unfold Sp.cleaned
      simp only [List.mem_filter, hdx]
      by_cases hc : x.dirty = true ∧ x.page.id ∈ q
      · rw [if_pos (show (x.ri.dirty = true ∧ x.ri.page.id ∈ q) from hc), if_pos ⟨hc.2, hc.1⟩]; rfl
      · rw [if_neg (show ¬ (x.ri.dirty = true ∧ x.ri.page.id ∈ q) from hc), if_neg (fun h => hc ⟨h.2, h.1⟩)]
    · show (if s.forced ≤ Sp.lsnOf s.L q then s.next else s.forced) = _
      rw [hT, h.forced, h.next, Sp.Lg.forceTo_forced h.lwf]
    · exact h.next.trans (Sp.Lg.forceTo_next l _).symm
    · intro n hn1 hn2
      show Sp.Pg.wf (ite _ _ _) ∧ Sp.Pg.may (ite _ _ _) ∧ Sp.Pg.id (ite _ _ _) = n
      rw [hdk n]
      split
      · rename_i hm
        obtain ⟨it, hit, hide, hf, _⟩ := hnew n hm
        rw [hf]
        exact ⟨(h.wf.pg it hit).1, (h.wf.pg it hit).2, hide⟩
      · exact h.ok n hn1 hn2
    · refine ⟨by rw [t3, f3]; exact h.dkt.len, t1, t2, fun n hn1 hn2 => ?_⟩
      show _ = pgBytes (ite _ _ _)
      rw [hdk n]
      split
      · rename_i hm
        obtain ⟨it, hit, hide, hf, hmem⟩ := hnew n hm
        rw [hf]
        exact t4 _ hmem
      · rename_i hm
        have hin := h.inside hn1 hn2
        unfold Sp.inside at hin
        rw [t5 n (fun x hx e => hm (List.mem_map.2 ⟨x, hx, e⟩)) hin.2 (by rw [f3]; exact hin.1), f4 _ (.inr (by have := h.lo; omega))]
        exact h.dkt.page n hn1 hn2
    · exact ⟨t1, t2, by rw [t3, f3, (Sp.Lg.forceTo_at l _).1, (Sp.Lg.forceTo_at l _).2]; exact h.dl.fit, by rw [t3, f3]; exact h.dl.area, by rw [t3, f3]; exact h.dl.homes, by rw [Sp.Lg.forceTo_next]; exact h.dl.next⟩
    · rw [(Sp.Lg.forceTo_at l _).1, (Sp.Lg.forceTo_at l _).2]; exact h.lo
    · have hl := h.dkt.len
      have hf := ly.fits
      have h0 := t5 0 (fun x hx e => by
        obtain ⟨hx1, it, hf, _, hx2⟩ := Sp.Pl.dirt_mem hx
        obtain ⟨hit, hide⟩ := Sp.Pl.find_mem hf
        have := (h.in_ it hit).1
        omega) (by have := h.area; omega) (by rw [f3]; omega)
      rw [Nat.zero_mul, Nat.add_zero] at h0
      rw [h0, f4 _ (.inr (by have := h.lo; have := h.area; omega))]
      exact h.zero
    · intro y hy
      obtain ⟨x, hx, rfl⟩ := List.mem_map.1 hy
      have := h.in_ x hx
      split <;> exact this
end Go.Proofs.YtclpmkinjjhncaaGreat

/- What take, Pin and the like do to the plain pool. No walk. -/
namespace Go.Proofs.YtclpmkinjjhncaaGreat
open Go.RowKit Go.Conc

theorem Rep.of {ly : Ly} {p p' : Sp.Pl} {dk : Sp.Dk} {l : Sp.Lg} {s : Sp.R15} (h : Rep ly p dk l s) (wf' : p'.wf) (hn : p'.n = p.n) {L' : List Sp.RI} (hL : p'.items.map Sp.It.ri = L') (hin : ∀ it ∈ p'.items, 1 ≤ it.page.id ∧ it.page.id ≤ ly.top) : Rep ly p' dk l { s with L := L' } :=
  ⟨wf', h.lwf, h.frames.trans hn.symm, hL.symm, h.top, h.forced, h.next, h.ok, h.dkt, h.dl, h.lo, h.area, h.tight, h.zero, hin⟩

namespace Sp
theorem dropR_eq (p : Pl) (id i : Nat) : (p.drop id i).items.map It.ri = dropR (p.items.map It.ri) id := by
  unfold Pl.drop dropR
  rw [List.filter_map]
  rfl
theorem pinR_last (p : Pl) (id : Nat) : (((p.pinUp id).last id).items).map It.ri = pinR (p.items.map It.ri) id := by
  have key : ∀ (l : List It), ((l.map fun x => if x.page.id = id then { x with pins := x.pins + 1 } else x).filter (fun x => x.page.id != id)).map It.ri = dropR (l.map It.ri) id := fun l => by
    induction l with
    | nil => rfl
    | cons x xs ih =>
      rw [List.map_cons, List.map_cons]
      by_cases hx : x.page.id = id
      · rw [if_pos hx, List.filter_cons_of_neg (by simp [hx])]
        unfold dropR at ih ⊢
        rw [List.filter_cons_of_neg (by simp [It.ri, hx])]
        exact ih
      · rw [if_neg hx, List.filter_cons_of_pos (by simp [hx])]
        unfold dropR at ih ⊢
        rw [List.filter_cons_of_pos (by simp [It.ri, hx]), List.map_cons, ih]
  have key2 : ∀ (l : List It), ((l.map fun x => if x.page.id = id then { x with pins := x.pins + 1 } else x).filter (fun x => x.page.id == id)).map It.ri = ((l.map It.ri).filter (fun x => x.page.id == id)).map (fun x => { x with pins := x.pins + 1 }) := fun l => by
    induction l with
    | nil => rfl
    | cons x xs ih =>
      rw [List.map_cons, List.map_cons]
      by_cases hx : x.page.id = id
      · rw [if_pos hx, List.filter_cons_of_pos (by simp [hx]), List.filter_cons_of_pos (by simp [It.ri, hx]), List.map_cons, List.map_cons, ih]
        rfl
      · rw [if_neg hx, List.filter_cons_of_neg (by simp [hx]), List.filter_cons_of_neg (by simp [It.ri, hx]), ih]
  show List.map It.ri (_ ++ _) = _
  rw [List.map_append]
  exact congr (congrArg _ (key p.items)) (key2 p.items)
theorem dropR_none {L : List RI} {id : Nat} (h : ∀ x ∈ L, x.page.id ≠ id) : dropR L id = L := by
  unfold dropR
  rw [List.filter_eq_self]
  intro x hx
  simpa using h x hx
theorem pinR_new {L : List RI} {x : Pg} (h : ∀ y ∈ L, y.page.id ≠ x.id) : pinR (L ++ [⟨x, 0, false, 0⟩]) x.id = L ++ [⟨x, 1, false, 0⟩] := by
  unfold pinR
  have e1 : dropR (L ++ [⟨x, 0, false, 0⟩]) x.id = L := by
    unfold dropR
    rw [List.filter_append]
    have := dropR_none h
    unfold dropR at this
    rw [this]
    simp
  have e2 : L.filter (fun y => y.page.id == x.id) = [] := by
    rw [List.filter_eq_nil_iff]
    intro y hy
    simpa using h y hy
  rw [e1, List.filter_append, e2]
  simp
theorem ri_ids (p : Pl) {id : Nat} (h : p.find id = none) : ∀ y ∈ p.items.map It.ri, y.page.id ≠ id := fun y hy => by
  obtain ⟨x, hx, rfl⟩ := List.mem_map.1 hy
  exact Pl.find_none.1 h x hx
theorem pinUp_bring {p : Pl} {x : Pg} {i : Nat} {rest : List Nat} (h : p.find x.id = none) : ((p.bring x i rest).pinUp x.id).items = p.items ++ [⟨x, 1, false, 0, i⟩] := by
  show List.map _ (p.items ++ [_]) = _
  rw [List.map_append]
  have h1 := Pl.find_none.1 h
  congr 1
  · rw [List.map_congr_left (g := id)]
    · simp
    · intro y hy
      simp [h1 y hy]
  · simp
theorem upR_eq (p : Pl) (id : Nat) (f : It → It) (g : RI → RI) (h : ∀ x, (f x).ri = g x.ri) : (p.upd id f).items.map It.ri = upR (p.items.map It.ri) id g := by
  unfold Pl.upd upR
  rw [List.map_map, List.map_map]
  apply List.map_congr_left
  intro x _
  simp only [Function.comp]
  by_cases hx : x.page.id = id
  · rw [if_pos hx, if_pos (show x.ri.page.id = id from hx)]; exact h x
  · rw [if_neg hx, if_neg (show ¬ x.ri.page.id = id from hx)]
end Sp

theorem Rep.len {ly : Ly} {p : Sp.Pl} {dk : Sp.Dk} {l : Sp.Lg} {s : Sp.R15} (h : Rep ly p dk l s) : s.L.length + p.free.length = s.frames := by
  have := h.wf.len
  rw [h.L, h.frames, List.length_map]; omega
theorem Rep.full {ly : Ly} {p : Sp.Pl} {dk : Sp.Dk} {l : Sp.Lg} {s : Sp.R15} (h : Rep ly p dk l s) : s.L.length < s.frames ↔ p.free ≠ [] := by
  have := h.len
  cases hf : p.free with
  | nil => rw [hf] at this; simp at this; simp; omega
  | cons a b => rw [hf] at this; simp at this; simp; omega

/-- The first that is not pinned. -/
theorem first_free {p : Sp.Pl} (hwf : p.wf) {pre post : List Nat} {it : Sp.It} (h : p.items.map (·.page.id) = pre ++ it.page.id :: post) (hpre : ∀ n ∈ pre, ∃ y, p.find n = some y ∧ 0 < y.pins) (hf : p.find it.page.id = some it) (hp : it.pins = 0) :
    (p.items.map Sp.It.ri).find? (fun x => x.pins == 0) = some it.ri := by
  obtain ⟨l1, l2, e1, e2, e3⟩ := List.map_eq_append_iff.1 h
  obtain ⟨y, l3, e4, e5, e6⟩ := List.map_eq_cons_iff.1 e3
  have hy : y ∈ p.items := by rw [e1, e4]; simp
  have hye : y = it := by
    have := Sp.Pl.find_of hwf hy
    rw [e5, hf] at this
    injection this with this
    exact this.symm
  subst hye
  rw [e1, e4, List.map_append, List.map_cons, List.find?_append]
  have h1 : (l1.map Sp.It.ri).find? (fun x => x.pins == 0) = none := by
    rw [List.find?_eq_none]
    intro x hx
    obtain ⟨z, hz, rfl⟩ := List.mem_map.1 hx
    obtain ⟨q, hq, hqp⟩ := hpre z.page.id (by rw [← e2]; exact List.mem_map.2 ⟨z, hz, rfl⟩)
    rw [Sp.Pl.find_of hwf (by rw [e1]; exact List.mem_append_left _ hz)] at hq
    injection hq with hq
    subst hq
    simp [Sp.It.ri]; omega
  rw [h1]
  simp [Sp.It.ri, hp]

theorem Rep.drops {ly : Ly} {p p2 : Sp.Pl} {dk dk' : Sp.Dk} {l l' : Sp.Lg} {s : Sp.R15} {it : Sp.It} {c : Nat} (h : Rep ly p dk l s) (hit : it ∈ p.items) (hw : Wrote ly.at_ ly.base p dk l [it.page.id] c p2 dk' l') :
    (c ≠ 0 → s.drop it.page.id = (c, s)) ∧ (c = 0 → (s.drop it.page.id).1 = 0 ∧ Rep ly (p.drop it.page.id it.idx) dk' l' (s.drop it.page.id).2) := by
  have hf := Sp.Pl.find_of h.wf hit
  obtain ⟨k1, k2, k3, k4, k5⟩ := hw.keep
  obtain ⟨w1, w2⟩ := h.wrote hw (fun n hn => by rw [List.mem_singleton.1 hn]; exact ⟨it, hf⟩) (by simp) (by have := Sp.Pl.dirt_len p [it.page.id]; simp at this; omega)
  refine ⟨fun hc => ?_, fun hc => ?_⟩
  · have e : s.write [it.page.id] = (c, s) := by
      rcases hw with ⟨_, rfl, _⟩ | ⟨h1, h2, rfl, _⟩ | ⟨_, _, rfl, _⟩
      · exact absurd rfl hc
      · have hD := Sp.dirt_nil_iff p [it.page.id]
        have hT := Sp.lsnOf_eq p [it.page.id]
        rw [← h.L] at hD hT
        unfold Sp.R15.write; rw [if_neg (fun e => h1 (hD.2 e)), if_pos (by rw [hT, h.next]; exact h2)]
      · exact absurd rfl hc
    unfold Sp.R15.drop
    simp only [e]
    rw [if_pos hc]
  · subst hc
    have hdr := hw.drop it.idx
    unfold Sp.R15.drop
    simp only [w1]
    rw [if_neg (by simp)]
    refine ⟨rfl, ?_⟩
    rw [← hdr]
    have hwf := h.wf.drop hit
    rw [← hdr] at hwf
    refine w2.of hwf rfl ?_ (fun y hy => w2.in_ y (List.mem_filter.1 hy).1)
    rw [Sp.dropR_eq, w2.L]

/-- Room was found. -/
theorem Rep.room_ok {ly : Ly} {p p' : Sp.Pl} {dk dk' : Sp.Dk} {l l' : Sp.Lg} {s : Sp.R15} {ids' : List Nat} (h : Rep ly p dk l s) (ht : TookS ly.at_ ly.base p dk l (p.items.map (·.page.id)) p' ids' dk' l') :
    s.room.1 = 0 ∧ Rep ly p' dk' l' s.room.2 ∧ ids' = p'.items.map (·.page.id) := by
  rcases ht with ⟨h1, rfl, rfl, rfl, rfl⟩ | ⟨h1, pre, it, post, p2, hsp, hpre, hfi, hp0, hw, rfl, rfl⟩
  · have e : s.room = (0, s) := by unfold Sp.R15.room; rw [if_pos (h.full.2 h1)]
    rw [e]; exact ⟨rfl, h, rfl⟩
  · have hit := (Sp.Pl.find_mem hfi).1
    have e : s.room = s.drop it.page.id := by
      unfold Sp.R15.room
      rw [if_neg (fun e => (h.full.1 e) h1), h.L, first_free h.wf hsp hpre hfi hp0]
      rfl
    rw [e]
    refine ⟨((h.drops hit hw).2 rfl).1, ((h.drops hit hw).2 rfl).2, ?_⟩
    simp only [Sp.Pl.drop]
    rw [List.filter_map]
    rfl
/-- Room was not found. -/
theorem Rep.room_err {ly : Ly} {p : Sp.Pl} {dk : Sp.Dk} {l : Sp.Lg} {s : Sp.R15} {c : Nat} (h : Rep ly p dk l s) (ht : TookE ly.at_ ly.base p dk l (p.items.map (·.page.id)) c) : s.room = (c, s) ∧ c ≠ 0 := by
  obtain ⟨h1, ⟨rfl, hall⟩ | ⟨pre, it, post, p2, d', l', hsp, hpre, hfi, hp0, hc, hw⟩⟩ := ht
  · have e : (p.items.map Sp.It.ri).find? (fun x => x.pins == 0) = none := by
      rw [List.find?_eq_none]
      intro x hx
      obtain ⟨z, hz, rfl⟩ := List.mem_map.1 hx
      obtain ⟨q, hq, hqp⟩ := hall z.page.id (List.mem_map.2 ⟨z, hz, rfl⟩)
      rw [Sp.Pl.find_of h.wf hz] at hq
      injection hq with hq
      subst hq
      simp [Sp.It.ri]; omega
    refine ⟨?_, by decide⟩
    unfold Sp.R15.room
    rw [if_neg (fun e => (h.full.1 e) h1), h.L, e]
  · refine ⟨?_, hc⟩
    unfold Sp.R15.room
    rw [if_neg (fun e => (h.full.1 e) h1), h.L, first_free h.wf hsp hpre hfi hp0]
    exact (h.drops (Sp.Pl.find_mem hfi).1 hw).1 hc
end Go.Proofs.YtclpmkinjjhncaaGreat

/- The walks of package twin's Read outside of a disk, and of package pool's Pin of what is no page there. -/
namespace Go.Proofs.YtclpmkinjjhncaaGreat
open Go.RowKit

set_option maxRecDepth 100000 in
set_option maxHeartbeats 2000000 in
theorem twin_read_out {F : Foot} {w : World} {g : Nat} {d : Sp.Dk} (h : IsDk F w g d) (base page : Nat) (hp : page < 4294967296) (hb : base ≤ d.sure.length) (ho : d.sure.length < base + page * 4 + 4) :
    Calls Tryz.prog 103 #[.pointer (some ⟨g, 0, none⟩), .int .i64 base, .int .u32 page] w fun e w' => e = .returned (.tuple #[str [], .int .i64 2]) ∧ w' = w := by
  have hfew := h.wf.few
  have HL := Lib.hid (disk_len h)
  have d1 : decide ((base : Int) < 0) = false := by simp
  have d2 : decide ((d.sure.length : Int) < base) = false := by rw [decide_eq_false_iff_not]; omega
  have d3 : decide ((d.sure.length : Int) - 4 < base + page * 4) = true := by rw [decide_eq_true_eq]; omega
  clear h
  go_enter Tryz.func103, Tryz.ntmps103
  go_wp2_with fail
  refine HL.out.mono ?_
  rintro e w1 ⟨rfl, hw⟩
  subst w1
  go_wp2_with fail
  refine HL.out.mono ?_
  rintro e w1 ⟨rfl, hw⟩
  subst w1
  go_wp2_with fail
  go_ret2
  exact ⟨rfl, rfl⟩

set_option maxRecDepth 100000 in
set_option maxHeartbeats 4000000 in
/-- A page that the disk has not. -/
theorem pool_pin_far {F : Foot} {w : World} {gp gd gl at_ base : Nat} {p : Sp.Pl} (h : IsPl F w gp gd gl at_ base p) {id : Nat} (hid : id < 4294967296) (hf : p.find id = none)
    (HTR : ∀ W, Below w.heap.size w W → Calls Tryz.prog 103 #[ptr gd, .int .i64 base, u32v id] W fun e w' => e = .returned (.tuple #[str [], .int .i64 2]) ∧ Below W.heap.size W w') :
    Calls Tryz.prog 41 #[ptr gp, u32v id] w fun e w' => e = .returned (.tuple #[zeroPgV, .int .i64 2]) ∧ Below w.heap.size w w' := by
  obtain ⟨R, fb, cb, mb, v, s0, r, cs, h⟩ := h
  have hb2 := Blk.new w 50 #[.int .u8 0, .int .u8 0, .int .u32 0, .int .u64 0, .int .u32 0, .slice none 0 0]
  have hbw := (Below.refl w.heap.size w).alloc (Nat.le_refl _) (.cells #[.int .u8 0, .int .u8 0, .int .u32 0, .int .u64 0, .int .u32 0, .slice none 0 0] 50)
  have h2 := h.keep (w' := w.alloc (.cells #[.int .u8 0, .int .u8 0, .int .u32 0, .int .u64 0, .int .u32 0, .slice none 0 0] 50)) (by simp) (fun b hb => Below.heap_alloc w _ b (h.lt b hb))
  obtain ⟨c0, c1, c2, c3, c4, c5, c6, c7⟩ := h2.cells
  have HM := Lib.hid (pool_made c6)
  have hlk := h2.look_out hid hf
  have HT := Lib.hid HTR
  have hz0 : ∀ W, (Instr.build 50 #[]).run Tryz.prog W = .ok zeroPgV W := fun W => by kernel_rfl
  clear c1 c2 c4 c5 c7 h HTR hf
  go_enter Tryz.func41, Tryz.ntmps41
  go_wp2_with fail
  obtain ⟨w2, hw2⟩ : ∃ w2, w2 = w.alloc (.cells #[.int .u8 0, .int .u8 0, .int .u32 0, .int .u64 0, .int .u32 0, .slice none 0 0] 50) := ⟨_, rfl⟩
  rw [← hw2] at HM hlk hb2 hbw c0 c3 c6 h2 ⊢
  obtain ⟨g4, hg⟩ : ∃ g, g = w.heap.size := ⟨_, rfl⟩
  rw [← hg] at hb2 ⊢
  have hg4l : w.heap.size ≤ g4 := by omega
  clear hw2 hg
  refine HM.out.mono ?_
  rintro e w1 ⟨rfl, hw⟩
  subst w1
  go_wp2_with fail
  have hS := Lib.hid (⟨c0, c3⟩ : w2.drew.cell? ⟨gp, 0, none⟩ = some (ptr gd) ∧ w2.drew.cell? ⟨gp, 3, none⟩ = some (.int .i64 base))
  have hgp0 := h2.blk
  clear c0 c3 c6 h2 HM hlk
  refine R_begin (fun W => W.cell? ⟨gp, 0, none⟩ = some (ptr gd) ∧ W.cell? ⟨gp, 3, none⟩ = some (.int .i64 base)) (fun _ => false) rfl ?_
  refine R_tk 0 28 hS.out ?_
  refine R_tk 1 29 hS.out ?_
  refine R_tk 2 30 hS.out ?_
  refine R_tk 3 31 hS.out ?_
  refine R_tk 4 32 hS.out ?_
  refine R_tk 5 33 hS.out ?_
  refine R_tk 6 34 hS.out ?_
  refine R_tk 7 35 hS.out ?_
  refine R_tk 8 36 hS.out ?_
  simp only [List.setIfInBounds_toArray, List.set_cons_zero, List.set_cons_succ]
  refine R_call 9 37 (w' := w2.drew) rfl rfl (by rfl) (by kernel_rfl) ?_ (HT.out w2.drew ⟨hbw.os, hbw.tape, hbw.output, hbw.size, hbw.block⟩) ?_
  · go_simp
  rintro e w3 ⟨rfl, hb3⟩
  have hgp3 := hgp0.drew.below hb3 hgp0.lt
  have hS3 := Lib.hid (show w3.cell? ⟨gp, 0, none⟩ = some (ptr gd) ∧ w3.cell? ⟨gp, 3, none⟩ = some (.int .i64 base) from ⟨(hgp3.cell 0).trans rfl, (hgp3.cell 3).trans rfl⟩)
  refine ⟨_, rfl, fun _ => hS3.out, ?_⟩
  simp only [List.setIfInBounds_toArray, List.set_cons_zero, List.set_cons_succ]
  refine R_tk 10 27 hS3.out ?_
  refine R_tk 11 38 hS3.out ?_
  refine R_tk 12 39 hS3.out ?_
  refine R_tk 13 8 hS3.out ?_
  refine R_tk 14 9 hS3.out ?_
  simp only [List.setIfInBounds_toArray, List.set_cons_zero, List.set_cons_succ]
  refine R_done (by kernel_rfl) ?_ _
  rename_i K9 hK9
  refine hK9 _ _ ?_
  clear hK9
  have hbd : Below w2.heap.size w2 w3 := (Below.refl w2.heap.size w2).drew.trans hb3
  have hb3' := hb2.below hbd hb2.lt
  have hbw3 : Below w.heap.size w w3 := hbw.trans (hbd.mono hbw.size)
  clear hS hS3 hgp3 hgp0 hb2 hbw hb3 hbd HT
  have HB7 := Lib.hid hb3'
  have hbw7 := hbw3
  clear hb3' hbw3
  have z0 := HB7.out.cell 0
  have f0 := HB7.out.frozen 0
  have z1 := HB7.out.cell 1
  have f1 := HB7.out.frozen 1
  have z2 := HB7.out.cell 2
  have f2 := HB7.out.frozen 2
  have z3 := HB7.out.cell 3
  have f3 := HB7.out.frozen 3
  have z4 := HB7.out.cell 4
  have f4 := HB7.out.frozen 4
  have z5 := HB7.out.cell 5
  have f5 := HB7.out.frozen 5
  simp only [List.getElem?_toArray, List.getElem?_cons_succ, List.getElem?_cons_zero] at z0 z1 z2 z3 z4 z5
  go_wp2_with fail
  obtain ⟨W8, hW8, hX8, ht8, hk8⟩ := six_set HB7.out (.int .u8 0) (.int .u8 0) (.int .u32 0) (.int .u64 0) (.int .u32 0) (.slice none 0 0)
  rw [hW8]
  have z0 := hX8.cell 0
  have z1 := hX8.cell 1
  have z2 := hX8.cell 2
  have z3 := hX8.cell 3
  have z4 := hX8.cell 4
  have z5 := hX8.cell 5
  simp only [List.getElem?_toArray, List.getElem?_cons_succ, List.getElem?_cons_zero] at z0 z1 z2 z3 z4 z5
  clear f0 f1 f2 f3 f4 f5 hW8
  exact bodyPost_ret (v := .tuple #[zeroPgV, .int .i64 2]) (by rw [results_cell_tmp rfl]; go_simp) rfl ⟨rfl, hbw7.trans (ht8.below hbw7.size (fun b hb => by rw [hb]; exact hg4l))⟩

set_option maxRecDepth 100000 in
set_option maxHeartbeats 4000000 in
/-- Bytes that are no page. -/
theorem pool_pin_bad {F : Foot} {w : World} {gp gd gl at_ base : Nat} {p : Sp.Pl} (h : IsPl F w gp gd gl at_ base p) {id : Nat} (hid : id < 4294967296) (hf : p.find id = none)
    (t : Sp.Bs) (h4 : 4 ≤ t.length) (hl : t.length ≤ 1000000000) (hne : Sp.sealed (t.take (t.length - 4)) ≠ t) (HTR : ∀ W, Below w.heap.size w W → Calls Tryz.prog 103 #[ptr gd, .int .i64 base, u32v id] W fun e w' => e = .returned (.tuple #[str t, .int .i64 0]) ∧ Below W.heap.size W w') :
    Calls Tryz.prog 41 #[ptr gp, u32v id] w fun e w' => e = .returned (.tuple #[zeroPgV, .int .i64 60]) ∧ Below w.heap.size w w' := by
  obtain ⟨R, fb, cb, mb, v, s0, r, cs, h⟩ := h
  have hb2 := Blk.new w 50 #[.int .u8 0, .int .u8 0, .int .u32 0, .int .u64 0, .int .u32 0, .slice none 0 0]
  have hbw := (Below.refl w.heap.size w).alloc (Nat.le_refl _) (.cells #[.int .u8 0, .int .u8 0, .int .u32 0, .int .u64 0, .int .u32 0, .slice none 0 0] 50)
  have h2 := h.keep (w' := w.alloc (.cells #[.int .u8 0, .int .u8 0, .int .u32 0, .int .u64 0, .int .u32 0, .slice none 0 0] 50)) (by simp) (fun b hb => Below.heap_alloc w _ b (h.lt b hb))
  obtain ⟨c0, c1, c2, c3, c4, c5, c6, c7⟩ := h2.cells
  have HM := Lib.hid (pool_made c6)
  have hlk := h2.look_out hid hf
  have HT := Lib.hid HTR
  have hz0 : ∀ W, (Instr.build 50 #[]).run Tryz.prog W = .ok zeroPgV W := fun W => by kernel_rfl
  clear c1 c2 c4 c5 c7 h HTR hf
  go_enter Tryz.func41, Tryz.ntmps41
  go_wp2_with fail
  obtain ⟨w2, hw2⟩ : ∃ w2, w2 = w.alloc (.cells #[.int .u8 0, .int .u8 0, .int .u32 0, .int .u64 0, .int .u32 0, .slice none 0 0] 50) := ⟨_, rfl⟩
  rw [← hw2] at HM hlk hb2 hbw c0 c3 c6 h2 ⊢
  obtain ⟨g4, hg⟩ : ∃ g, g = w.heap.size := ⟨_, rfl⟩
  rw [← hg] at hb2 ⊢
  have hg4l : w.heap.size ≤ g4 := by omega
  clear hw2 hg
  refine HM.out.mono ?_
  rintro e w1 ⟨rfl, hw⟩
  subst w1
  go_wp2_with fail
  have hS := Lib.hid (⟨c0, c3⟩ : w2.drew.cell? ⟨gp, 0, none⟩ = some (ptr gd) ∧ w2.drew.cell? ⟨gp, 3, none⟩ = some (.int .i64 base))
  have hgp0 := h2.blk
  clear c0 c3 c6 h2 HM hlk
  refine R_begin (fun W => W.cell? ⟨gp, 0, none⟩ = some (ptr gd) ∧ W.cell? ⟨gp, 3, none⟩ = some (.int .i64 base)) (fun _ => false) rfl ?_
  refine R_tk 0 28 hS.out ?_
  refine R_tk 1 29 hS.out ?_
  refine R_tk 2 30 hS.out ?_
  refine R_tk 3 31 hS.out ?_
  refine R_tk 4 32 hS.out ?_
  refine R_tk 5 33 hS.out ?_
  refine R_tk 6 34 hS.out ?_
  refine R_tk 7 35 hS.out ?_
  refine R_tk 8 36 hS.out ?_
  simp only [List.setIfInBounds_toArray, List.set_cons_zero, List.set_cons_succ]
  refine R_call 9 37 (w' := w2.drew) rfl rfl (by rfl) (by kernel_rfl) ?_ (HT.out w2.drew ⟨hbw.os, hbw.tape, hbw.output, hbw.size, hbw.block⟩) ?_
  · go_simp
  rintro e w3 ⟨rfl, hb3⟩
  have hgp3 := hgp0.drew.below hb3 hgp0.lt
  have hS3 := Lib.hid (show w3.cell? ⟨gp, 0, none⟩ = some (ptr gd) ∧ w3.cell? ⟨gp, 3, none⟩ = some (.int .i64 base) from ⟨(hgp3.cell 0).trans rfl, (hgp3.cell 3).trans rfl⟩)
  refine ⟨_, rfl, fun _ => hS3.out, ?_⟩
  simp only [List.setIfInBounds_toArray, List.set_cons_zero, List.set_cons_succ]
  refine R_tk 10 27 hS3.out ?_
  refine R_tk 11 38 hS3.out ?_
  refine R_tk 12 39 hS3.out ?_
  refine R_tk 13 8 hS3.out ?_
  refine R_tk 14 9 hS3.out ?_
  simp only [List.setIfInBounds_toArray, List.set_cons_zero, List.set_cons_succ]
  refine R_done (by kernel_rfl) ?_ _
  rename_i K9 hK9
  refine hK9 _ _ ?_
  clear hK9
  have hbd : Below w2.heap.size w2 w3 := (Below.refl w2.heap.size w2).drew.trans hb3
  have hb3' := hb2.below hbd hb2.lt
  have hbw3 : Below w.heap.size w w3 := hbw.trans (hbd.mono hbw.size)
  clear hS hS3 hgp3 hgp0 hb2 hbw hb3 hbd HT
  have HDEC := Lib.hid (page_decode_bad t w3 h4 hl hne)
  clear hne h4 hl
  go_wp2_with fail
  refine HDEC.out.mono ?_
  rintro e w4 ⟨rfl, hb4⟩
  have hb4' := hb3'.below hb4 hb3'.lt
  have hbw4 : Below w.heap.size w w4 := hbw3.trans (hb4.mono hbw3.size)
  have hb5 := (Below.refl w4.heap.size w4).alloc (Nat.le_refl _) (.cells #[.int .u8 0, .int .u8 0, .int .u32 0, .int .u64 0, .int .u32 0, .slice none 0 0] 50)
  have HB7 := Lib.hid (hb4'.below hb5 hb4'.lt)
  have hbw7 := hbw4.trans (hb5.mono hbw4.size)
  clear hb4 hb4' hbw4 hb3' hbw3 HDEC hb5
  have z0 := HB7.out.cell 0
  have f0 := HB7.out.frozen 0
  have z1 := HB7.out.cell 1
  have f1 := HB7.out.frozen 1
  have z2 := HB7.out.cell 2
  have f2 := HB7.out.frozen 2
  have z3 := HB7.out.cell 3
  have f3 := HB7.out.frozen 3
  have z4 := HB7.out.cell 4
  have f4 := HB7.out.frozen 4
  have z5 := HB7.out.cell 5
  have f5 := HB7.out.frozen 5
  simp only [List.getElem?_toArray, List.getElem?_cons_succ, List.getElem?_cons_zero] at z0 z1 z2 z3 z4 z5
  go_wp2_with fail
  obtain ⟨W8, hW8, hX8, ht8, hk8⟩ := six_set HB7.out (.int .u8 0) (.int .u8 0) (.int .u32 0) (.int .u64 0) (.int .u32 0) (.slice none 0 0)
  rw [hW8]
  have z0 := hX8.cell 0
  have z1 := hX8.cell 1
  have z2 := hX8.cell 2
  have z3 := hX8.cell 3
  have z4 := hX8.cell 4
  have z5 := hX8.cell 5
  simp only [List.getElem?_toArray, List.getElem?_cons_succ, List.getElem?_cons_zero] at z0 z1 z2 z3 z4 z5
  clear f0 f1 f2 f3 f4 f5 hW8
  exact bodyPost_ret (v := .tuple #[zeroPgV, .int .i64 60]) (by rw [results_cell_tmp rfl]; go_simp) rfl ⟨rfl, hbw7.trans (ht8.below hbw7.size (fun b hb => by rw [hb]; exact hg4l))⟩

end Go.Proofs.YtclpmkinjjhncaaGreat

/- A pool with its disk and its log in memory, as a law sees it; Pin. -/
namespace Go.Proofs.YtclpmkinjjhncaaGreat
open Go.RowKit Go.Conc

/-- A pool (block gp), its disk (gd), its log (gl); the blocks of K are none of theirs. -/
def PkAt (ly : Ly) (K : Foot) (w : World) (gd gl gp : Nat) (l : Sp.Lg) (s : Sp.R15) : Prop :=
  ∃ (p : Sp.Pl) (D F G : Foot) (dk : Sp.Dk), IsPl F w gp gd gl ly.at_ ly.base p ∧ IsDk D w gd dk ∧ IsLg G w gl gd l ∧ (∀ b, F b → ¬ D b) ∧ (∀ b, F b → ¬ G b) ∧ (∀ b, D b → ¬ G b) ∧ Rep ly p dk l s ∧ (∀ b, allF F D G b → ¬ K b) ∧ (∀ b, K b → b < w.heap.size)

theorem pk_make {ly : Ly} {K K' : Foot} {w w' : World} {gd gl gp : Nat} {l' : Sp.Lg} {s' : Sp.R15} {p' : Sp.Pl} {F D G F' D' G' : Foot} {dk' : Sp.Dk} (hpl : IsPl F' w' gp gd gl ly.at_ ly.base p') (hd : IsDk D' w' gd dk') (hg : IsLg G' w' gl gd l') (h1 : ∀ b, F' b → ¬ D' b) (h2 : ∀ b, F' b → ¬ G' b) (h3 : ∀ b, D' b → ¬ G' b) (hr : Rep ly p' dk' l' s')
    (hK : ∀ b, allF F D G b → ¬ K b) (hKl : ∀ b, K b → b < w.heap.size) (ht : Turns (allF F D G) (allF F' D' G') w w') (hK' : ∀ b, K' b → K b ∨ (w.heap.size ≤ b ∧ b < w'.heap.size ∧ ¬ allF F' D' G' b)) : PkAt ly K' w' gd gl gp l' s' := by
  refine ⟨p', D', F', G', dk', hpl, hd, hg, h1, h2, h3, hr, fun b hb hk => ?_, fun b hk => ?_⟩
  · rcases hK' b hk with hk | ⟨_, _, hk⟩
    · rcases ht.foot b hb with h | h
      · exact hK b h hk
      · have := hKl b hk; omega
    · exact hk hb
  · rcases hK' b hk with hk | ⟨_, hk, _⟩
    · exact Nat.lt_of_lt_of_le (hKl b hk) ht.size
    · exact hk

theorem PkAt.rep {ly : Ly} {K : Foot} {w : World} {gd gl gp : Nat} {l : Sp.Lg} {s : Sp.R15} (h : PkAt ly K w gd gl gp l s) : ∃ p dk, Rep ly p dk l s := by
  obtain ⟨p, D, F, G, dk, hpl, hd, hg, h1, h2, h3, hr, h4, h5⟩ := h
  exact ⟨p, dk, hr⟩
/-- The blocks made meanwhile are none of theirs. -/
theorem PkAt.more {ly : Ly} {K K' : Foot} {w w' : World} {gd gl gp : Nat} {l : Sp.Lg} {s : Sp.R15} (h : PkAt ly K w gd gl gp l s) (hb : Below w.heap.size w w') (hK : ∀ b, K' b → K b ∨ (w.heap.size ≤ b ∧ b < w'.heap.size)) : PkAt ly K' w' gd gl gp l s := by
  obtain ⟨p, D, F, G, dk, hpl, hd, hg, h1, h2, h3, hr, h4, h5⟩ := h
  refine ⟨p, D, F, G, dk, hpl.below hb, hd.below hb, hg.below hb, h1, h2, h3, hr, fun b hb1 hk => ?_, fun b hk => ?_⟩
  · rcases hK b hk with h' | h'
    · exact h4 b hb1 h'
    · rcases hb1 with e | e | e
      · have := hpl.lt b e; omega
      · have := hd.in_ b e; omega
      · have := hg.in_ b e; omega
  · rcases hK b hk with h' | h'
    · exact Nat.lt_of_lt_of_le (h5 b h') hb.size
    · exact h'.2
theorem PkAt.below {ly : Ly} {K : Foot} {w w' : World} {gd gl gp : Nat} {l : Sp.Lg} {s : Sp.R15} (h : PkAt ly K w gd gl gp l s) (hb : Below w.heap.size w w') : PkAt ly K w' gd gl gp l s := h.more hb (fun _ h => .inl h)
theorem PkAt.lt {ly : Ly} {K : Foot} {w : World} {gd gl gp : Nat} {l : Sp.Lg} {s : Sp.R15} (h : PkAt ly K w gd gl gp l s) : ∀ b, K b → b < w.heap.size := by
  obtain ⟨p, D, F, G, dk, hpl, hd, hg, h1, h2, h3, hr, h4, h5⟩ := h
  exact h5
theorem PkAt.mono {ly : Ly} {K K' : Foot} {w : World} {gd gl gp : Nat} {l : Sp.Lg} {s : Sp.R15} (h : PkAt ly K w gd gl gp l s) (hK : ∀ b, K' b → K b) : PkAt ly K' w gd gl gp l s := h.more (Below.refl _ _) (fun b hb => .inl (hK b hb))
/-- The world turned in blocks of K alone. -/
theorem PkAt.turns {ly : Ly} {K X X' : Foot} {w w' : World} {gd gl gp : Nat} {l : Sp.Lg} {s : Sp.R15} (h : PkAt ly K w gd gl gp l s) (ht : Turns X X' w w') (hX : ∀ b, X b → K b ∨ w.heap.size ≤ b) : PkAt ly K w' gd gl gp l s := by
  obtain ⟨p, D, F, G, dk, hpl, hd, hg, h1, h2, h3, hr, h4, h5⟩ := h
  have hk : ∀ b, b < w.heap.size → allF F D G b → w'.heap[b]? = w.heap[b]? := fun b hb hA => ht.block b hb (fun e => by
    rcases hX b e with e | e
    · exact h4 b hA e
    · omega)
  exact ⟨p, D, F, G, dk, hpl.keep ht.size (fun b hb => hk b (hpl.lt b hb) (.inl hb)), hd.keep (fun b hb => hk b (hd.in_ b hb) (.inr (.inl hb))), hg.keep (fun b hb => hk b (hg.in_ b hb) (.inr (.inr hb))), h1, h2, h3, hr, h4, fun b hb => Nat.lt_of_lt_of_le (h5 b hb) ht.size⟩

theorem Wrote.lg {at_ base : Nat} {p p' : Sp.Pl} {d d' : Sp.Dk} {l l' : Sp.Lg} {q : List Nat} {c : Nat} (h : Wrote at_ base p d l q c p' d' l') : l' = { l with forced := l'.forced } := by
  rcases h with ⟨_, _, _, _, rfl⟩ | ⟨_, _, _, _, _, rfl⟩ | ⟨_, _, _, _, _, rfl⟩
  · rfl
  · rfl
  · unfold Sp.Lg.forceTo; split <;> rfl
theorem TookS.lg {at_ base : Nat} {p p' : Sp.Pl} {d d' : Sp.Dk} {l l' : Sp.Lg} {ids ids' : List Nat} (h : TookS at_ base p d l ids p' ids' d' l') : l' = { l with forced := l'.forced } := by
  rcases h with ⟨_, _, _, _, rfl⟩ | ⟨_, _, _, _, p2, _, _, _, _, hw, _, _⟩
  · rfl
  · exact hw.lg
theorem Rep.lg {ly : Ly} {p : Sp.Pl} {dk : Sp.Dk} {l l' : Sp.Lg} {s : Sp.R15} (h : Rep ly p dk l' s) (e : l' = { l with forced := l'.forced }) : l' = { l with forced := s.forced } := by rw [h.forced]; exact e
theorem Rep.lgs {ly : Ly} {p : Sp.Pl} {dk : Sp.Dk} {l : Sp.Lg} {s : Sp.R15} (h : Rep ly p dk l s) : l = { l with forced := s.forced } := by rw [h.forced]

/-- What Pin answers, and leaves. -/
def PinPk (ly : Ly) (K : Foot) (w : World) (gd gl gp : Nat) (l : Sp.Lg) (s : Sp.R15) (k : Nat) (e : Ending) (w' : World) : Prop :=
  Kept K w w' ∧
  (((s.pin k).2.1 = none ∧ (s.pin k).1 ≠ 0 ∧ e = .returned (.tuple #[zeroPgV, .int .i64 (s.pin k).1]) ∧ PkAt ly K w' gd gl gp { l with forced := (s.pin k).2.2.forced } (s.pin k).2.2) ∨
   ∃ x A cc, (s.pin k).2.1 = some x ∧ (s.pin k).1 = 0 ∧ x.wf ∧ x.may ∧ e = .returned (.tuple #[pgV x A cc, .int .i64 0]) ∧ OkAddr A ∧ RowsAt (fun b => w.heap.size ≤ b ∧ rowK A x.rows.length b) w' A x.rows ∧
     PkAt ly (fun b => K b ∨ rowK A x.rows.length b) w' gd gl gp { l with forced := (s.pin k).2.2.forced } (s.pin k).2.2)

theorem pk_pin {ly : Ly} {K : Foot} {w : World} {gd gl gp : Nat} {l : Sp.Lg} {s : Sp.R15} (h : PkAt ly K w gd gl gp l s) {k : Nat} (k32 : k < 4294967296) (hs : ∀ x ∈ s.L, x.pins < 1000000) :
    Calls Tryz.prog 41 #[ptr gp, u32v k] w (PinPk ly K w gd gl gp l s k) := by
  obtain ⟨p, D, F, G, dk, hpl, hd, hg, hFD, hFG, hDG, hr, hK, hKl⟩ := h
  have hwf := hpl.wf
  have hhas : Sp.hasR s.L k = (p.find k).isSome := by rw [hr.L]; exact Sp.hasR_eq p k
  have hkept : ∀ {w' : World} {X : Foot}, Turns (allF F D G) X w w' → Kept K w w' := fun ht => Kept.of_turns ht (fun b hk => ⟨hKl b hk, fun hF => hK b hF hk⟩)
  cases hf : p.find k with
  | some it =>
    obtain ⟨hit, hk⟩ := Sp.Pl.find_mem hf
    have hsm := hs it.ri (by rw [hr.L]; exact List.mem_map.2 ⟨it, hit, rfl⟩)
    have hsm : it.pins < 1000000 := hsm
    have e : s.pin k = (0, some it.page, { s with L := Sp.pinR s.L k }) := by
      unfold Sp.R15.pin
      rw [if_pos (by rw [hhas, hf]; rfl), hr.L, Sp.getR_eq, hf]
      rfl
    refine (pool_pin_in' hpl k32 hf (by omega)).mono ?_
    rintro e' w' ⟨F', A, c, rfl, hA, hR, h', ht⟩
    unfold PinPk
    rw [e]
    have ht' : Turns (allF F D G) (allF F' D G) w w' := ht.wider (fun b hb => .inl hb) (fun b hb => hb.elim .inr (fun h => .inl (.inr h)))
    have hF'n := ht.foot
    have hin' : ∀ y ∈ ((p.pinUp k).last k).items, 1 ≤ y.page.id ∧ y.page.id ≤ ly.top := fun y hy => by
      have hy' := (Sp.Pl.last_perm (p.pinUp k) k).mem_iff.1 hy
      obtain ⟨x, hx, rfl⟩ := Sp.Pl.upd_mem hy'
      split <;> exact hr.in_ x hx
    refine ⟨hkept ht', .inr ⟨it.page, A, c, rfl, rfl, (hwf.pg it hit).1, (hwf.pg it hit).2, rfl, hA, (rowK_at hR).mono (fun b hb => ⟨hb.1.1, hb.2⟩), ?_⟩⟩
    have hr' : Rep ly ((p.pinUp k).last k) dk l { s with L := Sp.pinR s.L k } := hr.of h'.wf rfl (by rw [hr.L]; exact Sp.pinR_last p k) hin'
    have := hr'.lgs
    rw [← this]
    refine pk_make h' (hd.keep (fun b hb => ht.block b (hd.in_ b hb) (fun e => hFD b e hb))) (hg.keep (fun b hb => ht.block b (hg.in_ b hb) (fun e => hFG b e hb))) (fun b h1 h2 => ?_) (fun b h1 h2 => ?_) hDG hr' hK hKl ht' (fun b hb => hb.imp id (fun hb => ?_))
    · rcases hF'n b h1 with e | e
      · exact hFD b e h2
      · have := hd.in_ b h2; omega
    · rcases hF'n b h1 with e | e
      · exact hFG b e h2
      · have := hg.in_ b h2; omega
    · obtain ⟨h1, h2⟩ := rowK_of hR hb
      refine ⟨h1.1, h2, fun e => ?_⟩
      rcases e with e | e | e
      · exact h1.2 e
      · have := hd.in_ b e; have := h1.1; omega
      · have := hg.in_ b e; have := h1.1; omega
  | none =>
    have hno : Sp.hasR s.L k = false := by rw [hhas, hf]; rfl
    by_cases hk0 : k = 0
    · subst hk0
      have e : s.pin 0 = (60, none, s) := by
        unfold Sp.R15.pin
        rw [if_neg (by rw [hno]; decide), if_neg (by omega), if_pos rfl]
      refine (pool_pin_bad hpl k32 hf (Sp.zeros 512) (by rw [show (Sp.zeros 512).length = 512 from List.length_replicate ..]; omega) (by rw [show (Sp.zeros 512).length = 512 from List.length_replicate ..]; omega) ?_ (fun W hb => ?_)).mono ?_
      · have e : (Sp.zeros 512).take ((Sp.zeros 512).length - 4) = Sp.zeros 508 := by kernel_rfl
        rw [e]; exact Sp.zeros_unsealed
      · have := twin_read (hd.below hb) (by rw [hr.dl.fuse]; decide) hr.dl.loose ly.base 0 (by omega) (by rw [hr.dkt.len]; have := ly.fits; omega)
        rw [Nat.zero_mul, Nat.add_zero, hr.zero] at this
        exact this
      · rintro e' w' ⟨rfl, hb⟩
        unfold PinPk
        rw [e]
        refine ⟨hkept (Turns.of_below hb (allF F D G)), .inl ⟨rfl, (fun h => by cases h), rfl, ?_⟩⟩
        rw [← hr.lgs]
        exact PkAt.below ⟨p, D, F, G, dk, hpl, hd, hg, hFD, hFG, hDG, hr, hK, hKl⟩ hb
    · by_cases hkt : ly.top < k
      · have e : s.pin k = (2, none, s) := by
          unfold Sp.R15.pin
          rw [if_neg (by rw [hno]; decide), if_pos (by rw [hr.top]; exact hkt)]
        refine (pool_pin_far hpl k32 hf (fun W hb => ?_)).mono ?_
        · refine (twin_read_out (hd.below hb) ly.base k k32 (by rw [hr.dkt.len]; have := ly.fits; omega) (by rw [hr.dkt.len]; have := hr.tight; omega)).mono ?_
          rintro e' w' ⟨rfl, rfl⟩
          exact ⟨rfl, Below.refl _ _⟩
        · rintro e' w' ⟨rfl, hb⟩
          unfold PinPk
          rw [e]
          refine ⟨hkept (Turns.of_below hb (allF F D G)), .inl ⟨rfl, (fun h => by cases h), rfl, ?_⟩⟩
          rw [← hr.lgs]
          exact PkAt.below ⟨p, D, F, G, dk, hpl, hd, hg, hFD, hFG, hDG, hr, hK, hKl⟩ hb
      · have hin := hr.inside (n := k) (by omega) (by omega)
        obtain ⟨ok1, ok2, ok3⟩ := hr.ok k (by omega) (by omega)
        obtain ⟨R, fb, cb, mb, v, s0, r, cs, hat⟩ := hpl
        have hM : Mem F D G R w gp gd gl ly.at_ ly.base fb cb mb v s0 r cs p.free (p.items.map (·.page.id)) p dk l := ⟨hat, hd, hg, hFD, hFG, hDG⟩
        have hall : ∀ it ∈ p.items, Sp.inside dk.sure.length ly.at_ ly.base it.page.id := fun it hit => hr.inside (hr.in_ it hit).1 (hr.in_ it hit).2
        unfold Sp.inside at hin
        have HC := pool_pin_out (x := s.disk k) (H := allF F D G) hat ⟨ok1, ok2⟩ (by rw [ok3]; exact hf) hd (by rw [hr.dl.fuse]; decide) hr.dl.loose (by rw [ok3]; exact hin.1) (by rw [ok3]; exact hr.dkt.page k (by omega) (by omega)) hM.lt
          (ZM G gd gl ly.at_ ly.base p dk l (p.items.map (·.page.id))) (Z4M F D G R w gp gd gl ly.at_ ly.base fb cb mb v s0 r (p.items.map (·.page.id)) p dk l)
          (fun W hb hW => by
            have := take_mem (id := (s.disk k).id) hM hr.dl rfl hall (by rw [ok3]; exact hf) W hb
            exact this)
          (fun i p' ids' F' H' w2 hZ => by
            obtain ⟨D', d', l', _, _, _, _, _, _, hS⟩ := hZ
            obtain ⟨_, hr', hi⟩ := hr.room_ok hS
            have := hr'.wf.len; have := hr'.wf.n64
            rw [hi, List.length_map]; omega)
        rw [ok3] at HC
        refine HC.mono ?_
        have hpin : s.pin k = (if s.room.1 ≠ 0 then (s.room.1, none, s.room.2) else (0, some (s.disk k), { s.room.2 with L := Sp.pinR (s.room.2.L ++ [⟨s.disk k, 0, false, 0⟩]) k })) := by
          unfold Sp.R15.pin
          rw [if_neg (by rw [hno]; decide), if_neg (by rw [hr.top]; omega), if_neg hk0]
        rintro e' w' (⟨c4, hc4, rfl, w2, g4, ⟨hE, cs', hM', ht2⟩, hg4, ht⟩ | ⟨i, p', F', H', ids', rest, w2, F3, R3, v3, s3, r3, cs3, A, c, rfl, hA, hR, h', hfree, hnone, ⟨D', d', l', rfl, hD', hG', hFD', hFG', hDG', hS⟩, hF', ht, G0, hG0, ht3⟩)
        · obtain ⟨er, _⟩ := hr.room_err hE
          rw [er, if_pos hc4] at hpin
          unfold PinPk
          rw [hpin]
          have hz := ht2.size
          have htt : Turns (allF F D G) (allF F D G) w w' := by
            refine ⟨ht.os.trans ht2.os, ht.tape.trans ht2.tape, ht.output.trans ht2.output, Nat.le_trans hz ht.size, fun b hb hn => ?_, ht2.foot⟩
            rw [ht.block b (by omega) (fun e => by have e : b = g4 := e; omega)]
            exact ht2.block b hb hn
          refine ⟨hkept htt, .inl ⟨rfl, hc4, rfl, ?_⟩⟩
          rw [← hr.lgs]
          have hk4 : ∀ b, allF F D G b → w'.heap[b]? = w2.heap[b]? := fun b hb => ht.block b (hM'.lt b hb) (fun e => by
            have e : b = g4 := e
            have := hM.lt b hb; omega)
          exact pk_make ⟨R, fb, cb, mb, v, s0, r, cs', hM'.pl.keep ht.size (fun b hb => hk4 b (.inl hb))⟩ (hM'.dk.keep (fun b hb => hk4 b (.inr (.inl hb)))) (hM'.lg.keep (fun b hb => hk4 b (.inr (.inr hb)))) hFD hFG hDG hr hK hKl htt (fun b hb => .inl hb)
        · rw [ok3] at h' hnone
          obtain ⟨e1, hr', hids⟩ := hr.room_ok hS
          rw [if_neg (by rw [e1]; simp)] at hpin
          unfold PinPk
          rw [hpin]
          have hz := ht.size
          have hF3n : ∀ b, F3 b → (F' b ∨ G0 b) ∨ w2.heap.size ≤ b := ht3.foot
          have hn : ∀ b, D' b ∨ G b → ¬ F3 b := fun b hb hf3 => by
            rcases hF3n b hf3 with (e | e) | e
            · rcases hb with hb | hb
              · exact hFD' b e hb
              · exact hFG' b e hb
            · exact (hG0 b e).1 (.inr hb)
            · rcases hb with hb | hb
              · have := hD'.in_ b hb; omega
              · have := hG'.in_ b hb; omega
          have hk3 : ∀ b, D' b ∨ G b → b < w2.heap.size → w'.heap[b]? = w2.heap[b]? := fun b hb hlt => ht3.block b hlt (fun e => by
            rcases e with e | e
            · rcases hb with hb | hb
              · exact hFD' b e hb
              · exact hFG' b e hb
            · exact (hG0 b e).1 (.inr hb))
          have htt : Turns (allF F D G) (allF F3 D' G) w w' := by
            refine ⟨ht3.os.trans ht.os, ht3.tape.trans ht.tape, ht3.output.trans ht.output, Nat.le_trans hz ht3.size, fun b hb hn => ?_, fun b hb => ?_⟩
            · rw [ht3.block b (by omega) (fun e => by
                rcases e with e | e
                · rcases ht.foot b (.inl e) with h | h
                  · exact hn h
                  · omega
                · have := (hG0 b e).2; omega)]
              exact ht.block b hb hn
            · rcases hb with hb | hb
              · rcases hF3n b hb with (e | e) | e
                · exact ht.foot b (.inl e)
                · exact .inr (hG0 b e).2
                · exact .inr (Nat.le_trans hz e)
              · exact ht.foot b (.inr hb)
          have e2 : (((p'.bring (s.disk k) i rest).pinUp k).items.map (·.page.id)) = ids'.filter (fun y => !(y == k)) ++ [k] := by
            have hnot : ids'.filter (fun y => !(y == k)) = ids' := by
              rw [List.filter_eq_self]
              intro a ha
              rw [hids] at ha
              obtain ⟨y, hy, rfl⟩ := List.mem_map.1 ha
              have := Sp.Pl.find_none.1 hnone y hy
              simpa using this
            rw [hnot, hids]
            refine (Sp.Pl.upd_ids (p := p'.bring (s.disk k) i rest) (id := k) (f := fun y => { y with pins := y.pins + 1 }) ⟨fun _ => rfl, fun _ => rfl⟩).trans ?_
            simp [Sp.Pl.bring, ok3]
          have hpl' : IsPl F3 w' gp gd gl ly.at_ ly.base ((p'.bring (s.disk k) i rest).pinUp k) := ⟨R3, fb, cb, mb, v3, s3, r3, cs3, by rw [e2]; exact h'⟩
          have hr3 : Rep ly ((p'.bring (s.disk k) i rest).pinUp k) d' l' { s.room.2 with L := Sp.pinR (s.room.2.L ++ [⟨s.disk k, 0, false, 0⟩]) k } := by
            refine hr'.of h'.wf rfl ?_ (fun y hy => ?_)
            · have hb := Sp.pinUp_bring (p := p') (x := s.disk k) (i := i) (rest := rest) (by rw [ok3]; exact hnone)
              rw [ok3] at hb
              have hnew := Sp.pinR_new (L := s.room.2.L) (x := s.disk k) (by rw [ok3, hr'.L]; exact Sp.ri_ids p' hnone)
              rw [ok3] at hnew
              rw [hb, List.map_append, hnew, hr'.L]
              rfl
            · obtain ⟨x, hx, rfl⟩ := Sp.Pl.upd_mem hy
              have hx' : 1 ≤ x.page.id ∧ x.page.id ≤ ly.top := by
                rcases List.mem_append.1 hx with hx | hx
                · exact hr'.in_ x hx
                · rw [List.mem_singleton.1 hx]
                  show 1 ≤ (s.disk k).id ∧ _
                  rw [ok3]; omega
              split <;> exact hx'
          have elg : l' = { l with forced := ({ s.room.2 with L := Sp.pinR (s.room.2.L ++ [⟨s.disk k, 0, false, 0⟩]) k } : Sp.R15).forced } := hr3.lg (by have := hS.lg; exact this)
          refine ⟨hkept htt, .inr ⟨s.disk k, A, c, rfl, rfl, ok1, ok2, rfl, hA, (rowK_at hR).mono (fun b hb => ⟨hb.1.1, hb.2⟩), ?_⟩⟩
          show PkAt ly _ w' gd gl gp { l with forced := _ } _
          rw [← elg]
          refine pk_make hpl' (hD'.keep (fun b hb => hk3 b (.inl hb) (hD'.in_ b hb))) (hG'.keep (fun b hb => hk3 b (.inr hb) (hG'.in_ b hb))) (fun b h1 h2 => hn b (.inl h2) h1) (fun b h1 h2 => hn b (.inr h2) h1) hDG' hr3 hK hKl htt (fun b hb => hb.imp id (fun hb => ?_))
          obtain ⟨h1, h2⟩ := rowK_of hR hb
          refine ⟨h1.1, h2, fun e => ?_⟩
          rcases e with e | e | e
          · exact h1.2.1 e
          · have := hD'.in_ b e; have := h1.2.2; omega
          · have := hG'.in_ b e; have := h1.2.2; omega
end Go.Proofs.YtclpmkinjjhncaaGreat

/- Evict, Unpin of a pool with its disk and its log. -/
namespace Go.Proofs.YtclpmkinjjhncaaGreat
open Go.RowKit Go.Conc

/-- What a call that answers a number answers, and leaves. -/
def CallPk (ly : Ly) (K : Foot) (w : World) (gd gl gp : Nat) (l : Sp.Lg) (r : Nat × Sp.R15) (e : Ending) (w' : World) : Prop :=
  Kept K w w' ∧ e = .returned (.int .i64 r.1) ∧ PkAt ly K w' gd gl gp { l with forced := r.2.forced } r.2

theorem pk_same {ly : Ly} {K : Foot} {w w' : World} {gd gl gp : Nat} {l : Sp.Lg} {s : Sp.R15} (h : PkAt ly K w gd gl gp l s) (hb : Below w.heap.size w w') (c : Nat) : CallPk ly K w gd gl gp l (c, s) (.returned (.int .i64 c)) w' := by
  refine ⟨Kept.of_below hb h.lt, rfl, ?_⟩
  obtain ⟨p, dk, hr⟩ := h.rep
  show PkAt ly K w' gd gl gp { l with forced := s.forced } s
  rw [← hr.lgs]
  exact h.below hb

/-- The pool alone has turned. -/
theorem pk_pool {ly : Ly} {K : Foot} {w w' : World} {gd gl gp : Nat} {l : Sp.Lg} {s' : Sp.R15} {p' : Sp.Pl} {D F G F' : Foot} {dk : Sp.Dk} (hd : IsDk D w gd dk) (hg : IsLg G w gl gd l) (hFD : ∀ b, F b → ¬ D b) (hFG : ∀ b, F b → ¬ G b) (hDG : ∀ b, D b → ¬ G b) (hK : ∀ b, allF F D G b → ¬ K b) (hKl : ∀ b, K b → b < w.heap.size)
    (h' : IsPl F' w' gp gd gl ly.at_ ly.base p') (ht : Turns F F' w w') (hr' : Rep ly p' dk l s') (c : Nat) : CallPk ly K w gd gl gp l (c, s') (.returned (.int .i64 c)) w' := by
  have ht' : Turns (allF F D G) (allF F' D G) w w' := ht.wider (fun b hb => .inl hb) (fun b hb => hb.elim .inr (fun h => .inl (.inr h)))
  refine ⟨Kept.of_turns ht' (fun b hk => ⟨hKl b hk, fun hF => hK b hF hk⟩), rfl, ?_⟩
  show PkAt ly K w' gd gl gp { l with forced := s'.forced } s'
  rw [← hr'.lgs]
  refine pk_make h' (hd.keep (fun b hb => ht.block b (hd.in_ b hb) (fun e => hFD b e hb))) (hg.keep (fun b hb => ht.block b (hg.in_ b hb) (fun e => hFG b e hb))) (fun b h1 h2 => ?_) (fun b h1 h2 => ?_) hDG hr' hK hKl ht' (fun b hb => .inl hb)
  · rcases ht.foot b h1 with e | e
    · exact hFD b e h2
    · have := hd.in_ b h2; omega
  · rcases ht.foot b h1 with e | e
    · exact hFG b e h2
    · have := hg.in_ b h2; omega

set_option maxRecDepth 100000 in
set_option maxHeartbeats 1000000 in
theorem pool_unpin_no {F : Foot} {w : World} {gp gd gl at_ base : Nat} {p : Sp.Pl} (h : IsPl F w gp gd gl at_ base p) {id : Nat} (hid : id < 4294967296) (hf : ∀ it, p.find id = some it → it.pins = 0) :
    Calls Tryz.prog 40 #[ptr gp, u32v id] w fun e w' => e = .returned (.int .i64 3) ∧ Below w.heap.size w w' := by
  obtain ⟨R, fb, cb, mb, v, s, r, cs, h⟩ := h
  obtain ⟨c0, c1, c2, c3, c4, c5, c6, c7⟩ := h.cells
  have HM := Lib.hid (pool_made c6)
  cases hfi : p.find id with
  | none =>
    have hl := h.look_out hid hfi
    clear h c0 c1 c2 c3 c5 c7 hfi hf
    go_enter Tryz.func40, Tryz.ntmps40
    go_wp2_with fail
    refine HM.out.mono ?_
    rintro e w1 ⟨rfl, hw⟩
    subst w1
    go_wp2_with fail
    go_ret
    exact ⟨rfl, Below.refl _ _⟩
  | some it =>
    have hl := h.look_in hid hfi
    have hp0 := hf it hfi
    have hit := (Sp.Pl.find_mem hfi).1
    have hlt := h.wf.idx_lt hit
    have cp := h.pins hit
    rw [hp0] at cp
    have hn := h.wf.n64
    clear h c0 c1 c2 c3 c5 c7 hfi hf hp0 hit
    go_enter Tryz.func40, Tryz.ntmps40
    go_wp2_with fail
    refine HM.out.mono ?_
    rintro e w1 ⟨rfl, hw⟩
    subst w1
    go_wp2_with fail
    go_ret
    exact ⟨rfl, Below.refl _ _⟩

theorem pk_unpin {ly : Ly} {K : Foot} {w : World} {gd gl gp : Nat} {l : Sp.Lg} {s : Sp.R15} (h : PkAt ly K w gd gl gp l s) {k : Nat} (k32 : k < 4294967296) :
    Calls Tryz.prog 40 #[ptr gp, u32v k] w (CallPk ly K w gd gl gp l (s.unpin k)) := by
  have H := h
  obtain ⟨p, D, F, G, dk, hpl, hd, hg, hFD, hFG, hDG, hr, hK, hKl⟩ := h
  have hget : Sp.getR? s.L k = (p.find k).map Sp.It.ri := by rw [hr.L]; exact Sp.getR_eq p k
  by_cases hno : ∀ it, p.find k = some it → it.pins = 0
  · have e : s.unpin k = (3, s) := by
      unfold Sp.R15.unpin
      rw [hget]
      cases hf : p.find k with
      | none => rfl
      | some it => simp [Sp.It.ri, hno it hf]
    rw [e]
    refine (pool_unpin_no hpl k32 hno).mono ?_
    rintro e' w' ⟨rfl, hb⟩
    exact pk_same H hb 3
  · cases hf : p.find k with
    | none => exact absurd (fun it h => by rw [hf] at h; cases h) hno
    | some it =>
      have hp : 1 ≤ it.pins := by
        rcases Nat.eq_zero_or_pos it.pins with e | e
        · exact absurd (fun it' h => by rw [hf] at h; injection h with h; rw [← h]; exact e) hno
        · exact e
      have e : s.unpin k = (0, { s with L := Sp.upR s.L k (fun y => { y with pins := y.pins - 1 }) }) := by
        unfold Sp.R15.unpin
        rw [hget, hf]
        simp only [Option.map_some]
        rw [if_neg (by show ¬ it.pins = 0; omega)]
      rw [e]
      refine (pool_unpin hpl k32 hf hp).mono ?_
      rintro e' w' ⟨rfl, h', ht⟩
      refine pk_pool hd hg hFD hFG hDG hK hKl h' ht (hr.of h'.wf rfl ?_ (fun y hy => ?_)) 0
      · rw [hr.L]
        exact Sp.upR_eq p k _ _ (fun _ => rfl)
      · obtain ⟨x, hx, rfl⟩ := Sp.Pl.upd_mem hy
        have := hr.in_ x hx
        split <;> exact this

set_option maxRecDepth 100000 in
set_option maxHeartbeats 1000000 in
theorem pool_evict_no {F R : Foot} {w : World} {gp gd gl at_ base fb cb mb s r : Nat} {v : Value} {cs : Array Value} {fl ids : List Nat} {p : Sp.Pl} (h : IsPlAt F R w gp gd gl at_ base fb cb mb v s r cs fl ids p) {id : Nat} (hid : id < 4294967296) (c : Nat)
    (hf : (p.find id = none ∧ c = 3) ∨ ∃ it, p.find id = some it ∧ 0 < it.pins ∧ c = 9) :
    Calls Tryz.prog 84 #[ptr gp, u32v id] w fun e w' => e = .returned (.int .i64 c) ∧ Below w.heap.size w w' := by
  obtain ⟨c0, c1, c2, c3, c4, c5, c6, c7⟩ := h.cells
  have HM := Lib.hid (pool_made c6)
  rcases hf with ⟨hfi, rfl⟩ | ⟨it, hfi, hp, rfl⟩
  · have hl := h.look_out hid hfi
    clear h c0 c1 c2 c3 c5 c7 hfi
    go_enter Tryz.func84, Tryz.ntmps84
    go_wp2_with fail
    refine HM.out.mono ?_
    rintro e w1 ⟨rfl, hw⟩
    subst w1
    go_wp2_with fail
    go_ret
    exact ⟨rfl, Below.refl _ _⟩
  · have hl := h.look_in hid hfi
    have hit := (Sp.Pl.find_mem hfi).1
    have hlt := h.wf.idx_lt hit
    have cp := h.pins hit
    have hn := h.wf.n64
    have dp : decide (0 < it.pins) = true := by rw [decide_eq_true_iff]; exact hp
    clear h c0 c1 c2 c3 c5 c7 hfi hit
    go_enter Tryz.func84, Tryz.ntmps84
    go_wp2_with fail
    refine HM.out.mono ?_
    rintro e w1 ⟨rfl, hw⟩
    subst w1
    go_wp2_with fail
    go_ret
    exact ⟨rfl, Below.refl _ _⟩

set_option maxRecDepth 100000 in
set_option maxHeartbeats 1000000 in
theorem pool_evict_go {F R : Foot} {w : World} {gp gd gl at_ base fb cb mb s r : Nat} {v : Value} {cs : Array Value} {fl ids : List Nat} {p : Sp.Pl} (h : IsPlAt F R w gp gd gl at_ base fb cb mb v s r cs fl ids p) {id : Nat} (hid : id < 4294967296) {it : Sp.It} (hfi : p.find id = some it) (hp : it.pins = 0)
    {Q : Nat → World → Prop} (hD : Calls Tryz.prog 144 #[ptr gp, u32v id] w fun e w' => ∃ c : Nat, e = .returned (.int .i64 c) ∧ Q c w') :
    Calls Tryz.prog 84 #[ptr gp, u32v id] w fun e w' => ∃ c : Nat, e = .returned (.int .i64 c) ∧ Q c w' := by
  obtain ⟨c0, c1, c2, c3, c4, c5, c6, c7⟩ := h.cells
  have HM := Lib.hid (pool_made c6)
  have HD := Lib.hid hD
  have hl := h.look_in hid hfi
  have hit := (Sp.Pl.find_mem hfi).1
  have hlt := h.wf.idx_lt hit
  have cp := h.pins hit
  have hn := h.wf.n64
  rw [hp] at cp
  clear h c0 c1 c2 c3 c5 c7 hfi hit hp hD
  go_enter Tryz.func84, Tryz.ntmps84
  go_wp2_with fail
  refine HM.out.mono ?_
  rintro e w1 ⟨rfl, hw⟩
  subst w1
  go_wp2_with fail
  refine HD.out.mono ?_
  rintro e w1 ⟨c, rfl, hq⟩
  have HQ := Lib.hid hq
  clear hq
  go_wp2_with fail
  go_ret
  exact ⟨c, rfl, HQ.out⟩

theorem pk_evict {ly : Ly} {K : Foot} {w : World} {gd gl gp : Nat} {l : Sp.Lg} {s : Sp.R15} (h : PkAt ly K w gd gl gp l s) {k : Nat} (k32 : k < 4294967296) :
    Calls Tryz.prog 84 #[ptr gp, u32v k] w (CallPk ly K w gd gl gp l (s.evict k)) := by
  have H := h
  obtain ⟨p, D, F, G, dk, hpl, hd, hg, hFD, hFG, hDG, hr, hK, hKl⟩ := h
  have hget : Sp.getR? s.L k = (p.find k).map Sp.It.ri := by rw [hr.L]; exact Sp.getR_eq p k
  obtain ⟨R, fb, cb, mb, v, s0, r, cs, hat⟩ := hpl
  cases hf : p.find k with
  | none =>
    have e : s.evict k = (3, s) := by unfold Sp.R15.evict; rw [hget, hf]; rfl
    rw [e]
    refine (pool_evict_no hat k32 3 (.inl ⟨hf, rfl⟩)).mono ?_
    rintro e' w' ⟨rfl, hb⟩
    exact pk_same H hb 3
  | some it =>
    rcases Nat.eq_zero_or_pos it.pins with hp | hp
    · obtain ⟨hit, rfl⟩ := Sp.Pl.find_mem hf
      have e : s.evict it.page.id = s.drop it.page.id := by
        unfold Sp.R15.evict; rw [hget, hf]
        simp only [Option.map_some]
        rw [if_neg (by show ¬ 0 < it.pins; omega)]
      rw [e]
      have hM : Mem F D G R w gp gd gl ly.at_ ly.base fb cb mb v s0 r cs p.free (p.items.map (·.page.id)) p dk l := ⟨hat, hd, hg, hFD, hFG, hDG⟩
      have HD := drops_mem hM hr.dl hit (hr.inside (hr.in_ it hit).1 (hr.in_ it hit).2)
      refine (pool_evict_go (Q := fun c w' => CallPk ly K w gd gl gp l (s.drop it.page.id) (.returned (.int .i64 c)) w') hat k32 hf hp (HD.mono ?_)).mono ?_
      · rintro e' w' ⟨c, p2, d', l', rfl, hW, ⟨hc, cs', hM', ht⟩ | ⟨rfl, F', D', v', cs', hM', ht⟩⟩
        · rw [(hr.drops hit hW).1 hc]
          refine ⟨c, rfl, Kept.of_turns ht (fun b hk => ⟨hKl b hk, fun hF => hK b hF hk⟩), rfl, ?_⟩
          show PkAt ly K w' gd gl gp { l with forced := s.forced } s
          rw [← hr.lgs]
          exact pk_make ⟨R, fb, cb, mb, v, s0, r, cs', hM'.pl⟩ hM'.dk hM'.lg hFD hFG hDG hr hK hKl ht (fun b hb => .inl hb)
        · obtain ⟨e1, hr'⟩ := (hr.drops hit hW).2 rfl
          refine ⟨0, rfl, Kept.of_turns ht (fun b hk => ⟨hKl b hk, fun hF => hK b hF hk⟩), by rw [e1], ?_⟩
          have elg : l' = { l with forced := (s.drop it.page.id).2.forced } := hr'.lg hW.lg
          rw [← elg]
          have e2 : (p.drop it.page.id it.idx).items.map (·.page.id) = (p.items.map (·.page.id)).filter (fun x => !(x == it.page.id)) := by
            simp only [Sp.Pl.drop]
            rw [List.filter_map]
            rfl
          have hpl' := hM'.pl
          rw [← e2] at hpl'
          exact pk_make ⟨R, fb, cb, mb, v', s0 + 1, r, cs', hpl'⟩ hM'.dk hM'.lg hM'.FD hM'.FG hM'.DG hr' hK hKl ht (fun b hb => .inl hb)
      · rintro e' w' ⟨c, rfl, hq⟩
        exact hq
    · have e : s.evict k = (9, s) := by
        unfold Sp.R15.evict; rw [hget, hf]
        simp only [Option.map_some]
        rw [if_pos (by show 0 < it.pins; omega)]
      rw [e]
      refine (pool_evict_no hat k32 9 (.inr ⟨it, hf, hp, rfl⟩)).mono ?_
      rintro e' w' ⟨rfl, hb⟩
      exact pk_same H hb 9
end Go.Proofs.YtclpmkinjjhncaaGreat

/- The log's calls, as a law sees them beside a pool. -/
namespace Go.Proofs.YtclpmkinjjhncaaGreat
open Go.RowKit Go.Conc

section
variable {F : Foot} {w : World} {gl gd : Nat} {l : Sp.Lg}
set_option maxRecDepth 100000 in
set_option maxHeartbeats 2000000 in
theorem log_append_bad (h : IsLg F w gl gd l) (s : Sp.Bs) (hs : s.length = 0 ∨ 4096 < s.length) (hs9 : s.length < 1000000000) :
    Calls Tryz.prog 43 #[ptr gl, str s] w fun e w' => e = .returned (.tuple #[.int .u64 0, .int .i64 2]) ∧ Below w.heap.size w w' := by
  obtain ⟨h1, bv, sv, h3, h4, h5, h6⟩ := h
  obtain ⟨c0, c1, c2, c3, c4, c5, c6, c7, c8, c9⟩ := h3.lg
  have HM := Lib.hid (log_made (w := w) c0)
  have HE := Lib.hid fun (W : World) => frame_encode_bad l.next s W hs hs9
  clear c0 c1 c2 c3 c4 c5 c6 c8 c9 h3 h4 h5 h6
  go_enter Tryz.func43, Tryz.ntmps43
  go_wp2_with fail
  refine HM.out.mono ?_
  rintro e w1 ⟨rfl, hw⟩
  subst w1
  go_wp2_with fail
  refine (HE.out _).mono ?_
  rintro e w1 ⟨rfl, hw⟩
  subst w1
  go_wp2_with fail
  go_ret2
  exact ⟨rfl, Below.refl _ _⟩
set_option maxRecDepth 100000 in
set_option maxHeartbeats 2000000 in
theorem log_append_full (h : IsLg F w gl gd l) (hn : l.next < 4611686018427387904) (hr : l.reserved < 1000000000) (s : Sp.Bs) (hs1 : 1 ≤ s.length) (hs2 : s.length ≤ 4096) (hfit : l.left < 14 + s.length) :
    Calls Tryz.prog 43 #[ptr gl, str s] w fun e w' => e = .returned (.tuple #[.int .u64 0, .int .i64 4]) ∧ Below w.heap.size w w' := by
  have HR := Lib.hid fun (W : World) (h : IsLg F W gl gd l) => log_room h hn hr
  have HI := Lib.hid h
  obtain ⟨h1, bv, sv, h3, h4, h5, h6⟩ := h
  obtain ⟨c0, c1, c2, c3, c4, c5, c6, c7, c8, c9⟩ := h3.lg
  have HM := Lib.hid (log_made (w := w) c0)
  have hlo := h1.lo
  have hff := h1.ff
  have hfn := h1.fn
  have HE := Lib.hid fun (W : World) => frame_encode l.next s W hs1 hs2 (by omega) (by omega)
  have hfl := Sp.frame_length l.next s
  generalize Sp.frame l.next s = f at *
  have df : decide (l.left < f.length) = true := by rw [decide_eq_true_iff]; omega
  have HFL := Lib.hid hfl
  clear hfl
  clear c1 c2 c3 c4 c5 c6 c8 c9 c0 h3 h4 h5 h6
  go_enter Tryz.func43, Tryz.ntmps43
  go_wp2_with fail
  refine HM.out.mono ?_
  rintro e w1 ⟨rfl, hw⟩
  subst w1
  go_wp2_with fail
  refine (HE.out _).mono ?_
  rintro e w1 ⟨rfl, hb1⟩
  go_wp2_with fail
  refine (HR.out _ (HI.out.below hb1)).mono ?_
  rintro e w2 ⟨rfl, hb2'⟩
  have HB := Lib.hid (hb1.trans (hb2'.mono hb1.size))
  clear hb1 hb2'
  go_wp2_with fail
  go_ret2
  exact ⟨rfl, HB.out⟩
end

/-- The log alone has turned. -/
theorem pk_log {ly : Ly} {K : Foot} {w w' : World} {gd gl gp : Nat} {l' : Sp.Lg} {s' : Sp.R15} {p : Sp.Pl} {D F G G' : Foot} {dk : Sp.Dk} (hpl : IsPl F w gp gd gl ly.at_ ly.base p) (hd : IsDk D w gd dk) (hFD : ∀ b, F b → ¬ D b) (hFG : ∀ b, F b → ¬ G b) (hDG : ∀ b, D b → ¬ G b) (hK : ∀ b, allF F D G b → ¬ K b) (hKl : ∀ b, K b → b < w.heap.size)
    (hg' : IsLg G' w' gl gd l') (ht : Turns G G' w w') (hr' : Rep ly p dk l' s') : Kept K w w' ∧ PkAt ly K w' gd gl gp l' s' := by
  have ht' : Turns (allF F D G) (allF F D G') w w' := ht.wider (fun b hb => .inr (.inr hb)) (fun b hb => hb.elim (fun h => .inl (.inl h)) (fun h => h.elim (fun h => .inl (.inr (.inl h))) .inr))
  refine ⟨Kept.of_turns ht' (fun b hk => ⟨hKl b hk, fun hF => hK b hF hk⟩), ?_⟩
  refine pk_make (hpl.keep ht.size (fun b hb => ht.block b (hpl.lt b hb) (hFG b hb))) (hd.keep (fun b hb => ht.block b (hd.in_ b hb) (hDG b hb))) hg' hFD (fun b h1 h2 => ?_) (fun b h1 h2 => ?_) hr' hK hKl ht' (fun b hb => .inl hb)
  · rcases ht.foot b h2 with e | e
    · exact hFG b h1 e
    · have := hpl.lt b h1; omega
  · rcases ht.foot b h2 with e | e
    · exact hDG b h1 e
    · have := hd.in_ b h1; omega

/-- What Append answers, and leaves. -/
def AppPk (ly : Ly) (K : Foot) (w : World) (gd gl gp : Nat) (l : Sp.Lg) (s : Sp.R15) (t : Sp.Bs) (e : Ending) (w' : World) : Prop :=
  Kept K w w' ∧
  ((1 ≤ t.length ∧ t.length ≤ 4096 ∧ 14 + t.length ≤ l.left ∧ e = .returned (.tuple #[.int .u64 l.next, .int .i64 0]) ∧ PkAt ly K w' gd gl gp (l.append t) { s with next := l.next + (14 + t.length) }) ∨
   (1 ≤ t.length ∧ t.length ≤ 4096 ∧ l.left < 14 + t.length ∧ e = .returned (.tuple #[.int .u64 0, .int .i64 4]) ∧ PkAt ly K w' gd gl gp l s) ∨
   ((t.length = 0 ∨ 4096 < t.length) ∧ e = .returned (.tuple #[.int .u64 0, .int .i64 2]) ∧ PkAt ly K w' gd gl gp l s))

theorem pk_append {ly : Ly} {K : Foot} {w : World} {gd gl gp : Nat} {l : Sp.Lg} {s : Sp.R15} (h : PkAt ly K w gd gl gp l s) (hn : l.next < 1000000000000) (hr : l.reserved < 1000000000) (t : Sp.Bs) (ht : t.length < 1000000000) :
    Calls Tryz.prog 43 #[ptr gl, str t] w (AppPk ly K w gd gl gp l s t) := by
  have H := h
  obtain ⟨p, D, F, G, dk, hpl, hd, hg, hFD, hFG, hDG, hrep, hK, hKl⟩ := h
  by_cases h1 : 1 ≤ t.length ∧ t.length ≤ 4096
  · by_cases h2 : 14 + t.length ≤ l.left
    · refine (log_append hg (by omega) hr t h1.1 h1.2 h2).mono ?_
      rintro e w' ⟨G', rfl, hg', ht'⟩
      have hwf := Sp.Lg.append_wf hrep.lwf h2
      have hr' : Rep ly p dk (l.append t) { s with next := l.next + (14 + t.length) } :=
        ⟨hrep.wf, hwf, hrep.frames, hrep.L, hrep.top, hrep.forced, rfl, hrep.ok, hrep.dkt, ⟨hrep.dl.loose, hrep.dl.fuse, hrep.dl.fit, hrep.dl.area, hrep.dl.homes, by show l.next + (14 + t.length) < _; omega⟩, hrep.lo, hrep.area, hrep.tight, hrep.zero, hrep.in_⟩
      obtain ⟨k1, k2⟩ := pk_log hpl hd hFD hFG hDG hK hKl hg' ht' hr'
      exact ⟨k1, .inl ⟨h1.1, h1.2, h2, rfl, k2⟩⟩
    · refine (log_append_full hg (by omega) hr t h1.1 h1.2 (by omega)).mono ?_
      rintro e w' ⟨rfl, hb⟩
      exact ⟨Kept.of_below hb hKl, .inr (.inl ⟨h1.1, h1.2, by omega, rfl, H.below hb⟩)⟩
  · refine (log_append_bad hg t (by omega) ht).mono ?_
    rintro e w' ⟨rfl, hb⟩
    exact ⟨Kept.of_below hb hKl, .inr (.inr ⟨by omega, rfl, H.below hb⟩)⟩

theorem pk_next {ly : Ly} {K : Foot} {w : World} {gd gl gp : Nat} {l : Sp.Lg} {s : Sp.R15} (h : PkAt ly K w gd gl gp l s) :
    Calls Tryz.prog 8 #[ptr gl] w fun e w' => e = .returned (.int .u64 l.next) ∧ w' = w := by
  obtain ⟨p, D, F, G, dk, hpl, hd, hg, hFD, hFG, hDG, hrep, hK, hKl⟩ := h
  exact log_next hg
theorem pk_forced {ly : Ly} {K : Foot} {w : World} {gd gl gp : Nat} {l : Sp.Lg} {s : Sp.R15} (h : PkAt ly K w gd gl gp l s) :
    Calls Tryz.prog 22 #[ptr gl] w fun e w' => e = .returned (.int .u64 s.forced) ∧ w' = w := by
  obtain ⟨p, D, F, G, dk, hpl, hd, hg, hFD, hFG, hDG, hrep, hK, hKl⟩ := h
  rw [hrep.forced]
  exact log_forced hg
end Go.Proofs.YtclpmkinjjhncaaGreat

/- Rows that are owned, from one world to the next; a page's zero. No law's function is named here. -/
namespace Go.Proofs.YtclpmkinjjhncaaGreat
open Go.RowKit

def pgZero : Value := .agg #[.int .u8 0, .int .u8 0, .int .u32 0, .int .u64 0, .int .u32 0, .slice none 0 0]
theorem page_info : (Tryz.prog.info? 50).map (fun i => (i.zero, i.size, i.bytes)) = some (some pgZero, 6, 48) := by kernel_rfl
theorem blk_news {w : World} {g : Nat} {t : TypeId} {cs : List Value} (h : Blk w g t cs.toArray) : ∀ j u, cs[j]? = some u → w.cell? ((⟨g, 0, none⟩ : Addr).add j) = some u := fun j u hu => by
  have e : (⟨g, 0, none⟩ : Addr).add j = ⟨g, j, none⟩ := by cases j <;> simp [Addr.add]
  rw [e, h.cell, List.getElem?_toArray]; exact hu

theorem row_keep' {w w' : World} {base : Nat} {e : TypeId} {sz : Nat} {v : Value} {n : Nat} {xs : List Value} (h : w.ownsRow base e sz v n xs) (hk : ∀ b, v.ownBlock = some b → w'.heap[b]? = w.heap[b]?) : w'.ownsRow base e sz v n xs := by
  refine ⟨h.1, ?_⟩
  rcases h.2 with h' | ⟨b, cap, cur, rfl, hb, hh, rest⟩
  · exact .inl h'
  · exact .inr ⟨b, cap, cur, rfl, hb, (hk b rfl).trans hh, rest⟩

theorem row_mono {w : World} {base base' : Nat} {e : TypeId} {sz : Nat} {v : Value} {n : Nat} {xs : List Value} (h : w.ownsRow base e sz v n xs) (hb : base' ≤ base) : w.ownsRow base' e sz v n xs := by
  refine ⟨h.1, ?_⟩
  rcases h.2 with h' | ⟨b, cap, cur, rfl, hbb, rest⟩
  · exact .inl h'
  · exact .inr ⟨b, cap, cur, rfl, Nat.le_trans hb hbb, rest⟩

theorem row_base {w : World} {base : Nat} {e : TypeId} {sz : Nat} {v : Value} {n : Nat} {xs : List Value} (h : w.ownsRow base e sz v n xs) {b : Nat} (hb : v.ownBlock = some b) : base ≤ b := by
  rcases h.2 with ⟨rfl, _⟩ | ⟨g, cap, cur, rfl, hbb, rest⟩
  · simp [Value.ownBlock] at hb
  · simp only [Value.ownBlock, Option.some.injEq] at hb
    omega

end Go.Proofs.YtclpmkinjjhncaaGreat

/- The walks of packages act and tree: how they begin; act.Page of given pages. -/
namespace Go.Proofs.YtclpmkinjjhncaaGreat
open Go.RowKit Go.Conc

/-- Blocks that are kept were turned by somebody else. -/
theorem DgAt.turns {ly : Ly} {pg : Nat → Sp.Pg} {K F' : Foot} {w w' : World} {gd gl gp n : Nat} {L : List (Nat × Nat)} (h : DgAt ly pg K w gd gl gp n L) (ht : Turns K F' w w') : DgAt ly pg K w' gd gl gp n L := by
  obtain ⟨hok, p, D, F, dk, hd, hlk, hpl, hn, hfr, hL, hDF, hb0, hKl⟩ := h
  have hin := hd.in_
  have hlt := hpl.lt
  exact ⟨hok, p, D, F, dk, hd.keep (fun b hb => ht.block b (hin b hb) (hb0 b (.inl hb))), hlk, hpl.keep ht.size (fun b hb => ht.block b (hlt b hb) (hb0 b (.inr hb))), hn, hfr, hL, hDF, hb0, fun b hb => Nat.lt_of_lt_of_le (hKl b hb) ht.size⟩
theorem DgAt.less {ly : Ly} {pg : Nat → Sp.Pg} {K K' : Foot} {w : World} {gd gl gp n : Nat} {L : List (Nat × Nat)} (h : DgAt ly pg K w gd gl gp n L) (hk : ∀ b, K' b → K b) : DgAt ly pg K' w gd gl gp n L := by
  obtain ⟨hok, p, D, F, dk, hd, hlk, hpl, hn, hfr, hL, hDF, hb0, hKl⟩ := h
  exact ⟨hok, p, D, F, dk, hd, hlk, hpl, hn, hfr, hL, hDF, fun b h hb => hb0 b h (hk b hb), fun b hb => hKl b (hk b hb)⟩
theorem DgAt.drew {ly : Ly} {pg : Nat → Sp.Pg} {K : Foot} {w : World} {gd gl gp n : Nat} {L : List (Nat × Nat)} (h : DgAt ly pg K w gd gl gp n L) : DgAt ly pg K w.drew gd gl gp n L := h.below (Below.refl _ w).drew
theorem DzAt.turns {ly : Ly} {pg : Nat → Sp.Pg} {K F' : Foot} {w w' : World} {gd gl gp n : Nat} (h : DzAt ly pg K w gd gl gp n) (ht : Turns K F' w w') : DzAt ly pg K w' gd gl gp n := by
  obtain ⟨h1, L, h, hz⟩ := h
  exact ⟨h1, L, h.turns ht, hz⟩
theorem DzAt.less {ly : Ly} {pg : Nat → Sp.Pg} {K K' : Foot} {w : World} {gd gl gp n : Nat} (h : DzAt ly pg K w gd gl gp n) (hk : ∀ b, K' b → K b) : DzAt ly pg K' w gd gl gp n := by
  obtain ⟨h1, L, h, hz⟩ := h
  exact ⟨h1, L, h.less hk, hz⟩

/-- An act (block ga) on a pool of given pages, none of them pinned. -/
structure AcAt (ly : Ly) (pg : Nat → Sp.Pg) (K : Foot) (w : World) (ga gd gl gp n : Nat) : Prop where
  dz : DzAt ly pg K w gd gl gp n
  act : Blk w ga 111 #[ptr gp, ptr gl]
  k : K ga
section
variable {ly : Ly} {pg : Nat → Sp.Pg} {K K' : Foot} {w w' : World} {ga gd gl gp n : Nat}
theorem AcAt.more (h : AcAt ly pg K w ga gd gl gp n) (hb : Below w.heap.size w w') (hK : ∀ b, K' b → K b ∨ (w.heap.size ≤ b ∧ b < w'.heap.size)) (hk : K' ga) : AcAt ly pg K' w' ga gd gl gp n := ⟨h.dz.more hb hK, h.act.below hb h.act.lt, hk⟩
theorem AcAt.below (h : AcAt ly pg K w ga gd gl gp n) (hb : Below w.heap.size w w') : AcAt ly pg K w' ga gd gl gp n := h.more hb (fun _ h => .inl h) h.k
theorem AcAt.turns {T F' : Foot} (h : AcAt ly pg K w ga gd gl gp n) (ht : Turns T F' w w') (hT : ∀ b, T b → K b) (hg : ¬ T ga) : AcAt ly pg K w' ga gd gl gp n :=
  ⟨h.dz.turns (F' := K) ⟨ht.os, ht.tape, ht.output, ht.size, fun b hb hn => ht.block b hb (fun h => hn (hT b h)), fun _ hb => .inl hb⟩, h.act.turns ht hg, h.k⟩
theorem AcAt.less (h : AcAt ly pg K w ga gd gl gp n) (hk : ∀ b, K' b → K b) (hg : K' ga) : AcAt ly pg K' w ga gd gl gp n := ⟨h.dz.less hk, h.act, hg⟩
theorem AcAt.lt (h : AcAt ly pg K w ga gd gl gp n) : ∀ b, K b → b < w.heap.size := h.dz.lt
theorem AcAt.drew (h : AcAt ly pg K w ga gd gl gp n) : AcAt ly pg K w.drew ga gd gl gp n := h.below (Below.refl _ w).drew
end

theorem act_new (gp gl : Nat) (w : World) : Calls Tryz.prog 30 #[ptr gp, ptr gl] w fun e w' => e = .returned (.tuple #[ptr w.heap.size, .int .i64 0]) ∧ w' = w.alloc (.cells #[ptr gp, ptr gl] 111) := by
  go_enter Tryz.func30, Tryz.ntmps30
  go_wp2_with fail
  go_ret2
  exact ⟨rfl, rfl⟩
theorem act_none {w : World} {ga gp gl : Nat} (h : Blk w ga 111 #[ptr gp, ptr gl]) : Calls Tryz.prog 36 #[ptr ga] w fun e w' => e = .returned (.bool false) ∧ w' = w := by
  have c0 := h.cell 0
  have c1 := h.cell 1
  simp only [List.getElem?_toArray, List.getElem?_cons_succ, List.getElem?_cons_zero] at c0 c1
  go_enter Tryz.func36, Tryz.ntmps36
  go_wp2_with fail
  go_ret
  exact ⟨rfl, rfl⟩

theorem page_size : (Tryz.prog.info? 50).map (·.size) = some 6 := by kernel_rfl
theorem page_store {W : World} {g : Nat} {c0 c1 c2 c3 c4 c5 : Value} {p : Sp.Pg} {A : Option Addr} {c : Nat} (h : Blk W g 50 #[c0, c1, c2, c3, c4, c5]) :
    (storeVar 50 ⟨g, 0, none⟩ (pgV p A c)).run Tryz.prog W = .ok () (W.setRow g (pgCs p A c)) :=
  run_storeVar_part W g 0 _ _ _ _ h page_size (by show 0 + 6 ≤ 6; omega) (by simp [Value.oneCell'])

set_option maxRecDepth 100000 in
set_option maxHeartbeats 4000000 in
theorem act_page {ly : Ly} {pg : Nat → Sp.Pg} {K : Foot} {w : World} {ga gd gl gp n : Nat} (h : AcAt ly pg K w ga gd gl gp n) {q : Nat} (h1 : 1 ≤ q) (hT : q ≤ ly.top) :
    Calls Tryz.prog 10 #[ptr ga, u32v q] w fun e w' => ∃ A c, e = .returned (.tuple #[pgV (pg q) A c, .int .i64 0]) ∧ OkAddr A ∧ RowsAt (fun b => w.heap.size ≤ b ∧ rowK A (pg q).rows.length b) w' A (pg q).rows ∧
      AcAt ly pg (fun b => K b ∨ rowK A (pg q).rows.length b) w' ga gd gl gp n ∧ Kept K w w' := by
  have hlt := h.lt
  have hgl := h.act.lt
  have hkg := h.k
  have hb1 := (Below.refl w.heap.size w).alloc (Nat.le_refl _) (.cells #[.int .u8 0, .int .u8 0, .int .u32 0, .int .u64 0, .int .u32 0, .slice none 0 0] 50)
  have hB1 := Blk.new w 50 #[.int .u8 0, .int .u8 0, .int .u32 0, .int .u64 0, .int .u32 0, .slice none 0 0]
  have h2 := h.more (K' := fun b => K b ∨ b = w.heap.size) hb1 (fun b hb => hb.imp id (fun e => by have e : b = w.heap.size := e; simp [e])) (.inl hkg)
  have HN := Lib.hid (act_none h2.act)
  have c0 := h2.act.cell 0
  simp only [List.getElem?_toArray, List.getElem?_cons_zero] at c0
  obtain ⟨hn1, L, hL, hz⟩ := h2.dz
  have hlen := (dg_len hL).1
  obtain ⟨L', hpin, hmem, hz'⟩ := Sp.aPin_zero' hn1 (L := L) (k := q) hz hlen
  have HP := Lib.hid (dg_pin hL h1 hT (fun x hx => by rw [hz x hx]; omega))
  have HH := Lib.hid h2.act
  clear h h2 hL hlen
  go_enter Tryz.func10, Tryz.ntmps10
  go_wp2_with fail
  obtain ⟨g4, hg4⟩ : ∃ g, g = w.heap.size := ⟨_, rfl⟩
  obtain ⟨w1, hw1⟩ : ∃ w1, w1 = w.alloc (.cells #[.int .u8 0, .int .u8 0, .int .u32 0, .int .u64 0, .int .u32 0, .slice none 0 0] 50) := ⟨_, rfl⟩
  rw [← hw1, ← hg4] at HP hB1
  rw [← hw1] at HN c0 hb1 HH
  rw [← hw1, ← hg4]
  have hg4l : w.heap.size ≤ g4 := by omega
  have hne4 : ga ≠ g4 := by omega
  have hg4w1 := hB1.lt
  have hK4 : ∀ b, K b → b ≠ g4 := fun b hb => by have := hlt b hb; omega
  clear hw1
  refine HN.out.mono ?_
  rintro e w1' ⟨rfl, hw⟩
  subst w1'
  go_wp2_with fail
  refine HP.out.mono ?_
  rintro e w2 ⟨hk2, (⟨hno, _⟩ | ⟨L2, A, c, hsm, rfl, hA, hR, hL2⟩)⟩
  · rw [hpin] at hno; cases hno
  obtain rfl : L' = L2 := by rw [hpin] at hsm; injection hsm
  have HACT := Lib.hid (HH.out.kept hk2 (.inl hkg))
  have hB2 := hB1.kept hk2 (.inr rfl)
  have hb3 := (Below.refl w2.heap.size w2).alloc (Nat.le_refl _) (.cells (pgCs (pg q) A c) 50)
  have hB6 := Blk.new w2 50 (pgCs (pg q) A c)
  have hL3 := hL2.more (K' := fun b => ((K b ∨ b = g4) ∨ rowK A (pg q).rows.length b) ∨ b = w2.heap.size) hb3 (fun b hb => hb.imp id (fun e => by have e : b = w2.heap.size := e; simp [e]))
  have hk3 := Kept.of_below hb3 hL2.lt
  have hR3 := Reads.below hR hb3
  have hACT3 := HACT.out.below hb3 HACT.out.lt
  have hB3 := hB2.below hb3 hB2.lt
  have hs2 := hk2.size
  have hL2l := hL2.lt
  have hK13 : Kept K w1 (w2.alloc (.cells (pgCs (pg q) A c) 50)) := (hk2.mono (fun b hb => .inl hb)).trans (hk3.mono (fun b hb => .inl (.inl hb)))
  clear hk2 hsm HP HN HH hL2 hR hB1 hB2 hk3 HACT c0
  go_wp2_with fail
  obtain ⟨w3, hw3⟩ : ∃ w3, w3 = w2.alloc (.cells (pgCs (pg q) A c) 50) := ⟨_, rfl⟩
  obtain ⟨g6, hg6⟩ : ∃ g, g = w2.heap.size := ⟨_, rfl⟩
  rw [← hw3] at hb3 hK13 hR3 hACT3
  rw [← hw3, ← hg6] at hB6
  rw [← hw3] at hB3
  rw [← hw3, ← hg6] at hL3
  change Code.wp _ _ _ _ (w2.alloc (.cells (pgCs (pg q) A c) 50))
  rw [← hw3, ← hg6, ← hg4]
  have hg6l : w1.heap.size ≤ g6 := by omega
  have hne6 : g4 ≠ g6 := by have := hL2l g4 (.inl (.inr rfl)); omega
  have hnG6 : ga ≠ g6 := by have := hL2l ga (.inl (.inl hkg)); omega
  clear hw3 hg6
  have c0 := hACT3.cell 0
  simp only [List.getElem?_toArray, List.getElem?_cons_zero] at c0
  have hS := Lib.hid (show Blk w3.drew g6 50 (pgCs (pg q) A c) ∧ w3.drew.cell? ⟨ga, 0, none⟩ = some (ptr gp) from ⟨hB6, c0⟩)
  have HUN := Lib.hid (dg_unpin hL3.drew (k := q) (by have := ly.small; omega) hmem (Nat.le_refl 1))
  have HA := Lib.hid hA
  refine R_begin (fun W => Blk W g6 50 (pgCs (pg q) A c) ∧ W.cell? ⟨ga, 0, none⟩ = some (ptr gp)) (fun _ => false) rfl ?_
  refine R_tk 1 25 hS.out ?_
  refine R_tk 2 26 hS.out ?_
  refine R_tk 3 27 hS.out ?_
  refine R_tk 4 28 hS.out ?_
  refine R_tk 5 29 hS.out ?_
  refine R_take 0 24 (v := pgV (pg q) A c) rfl rfl (by rfl) (by kernel_rfl) (fun _ _ _ h => h) hS.out ?_ ?_
  · intro w hSw
    exact run_op_load _ _ _ rfl rfl (run_loadVar_row w g6 _ _ _ _ _ hSw.1 Tryz.underlying50 rfl rfl)
  simp only [List.setIfInBounds_toArray, List.set_cons_zero, List.set_cons_succ]
  refine R_call 6 30 (w' := w3.drew) rfl rfl (by rfl) (by kernel_rfl) ?_ HUN.out ?_
  · go_simp
  rintro e w4 ⟨rfl, hk4, hL4⟩
  have hB64 := hB6.drew.kept hk4 (.inr rfl)
  have hACT4 := hACT3.drew.kept hk4 (.inl (.inl (.inl hkg)))
  have hB4 := hB3.drew.kept hk4 (.inl (.inl (.inr rfl)))
  have c0' := hACT4.cell 0
  simp only [List.getElem?_toArray, List.getElem?_cons_zero] at c0'
  refine ⟨_, rfl, fun _ => ⟨hB64, c0'⟩, ?_⟩
  simp only [List.setIfInBounds_toArray, List.set_cons_zero, List.set_cons_succ]
  refine R_store 7 (n := .skip) (w' := w4.setRow g4 (pgCs (pg q) A c)) rfl rfl (by rfl) (by kernel_rfl) ?_ (.inl rfl) (fun _ => ⟨hB64.keep (heap_setRow_other _ _ _ _ (Ne.symm hne6)), (World.cell?_of_block (w := w4) (a := ⟨ga, 0, none⟩) (heap_setRow_other _ _ _ _ hne4)).trans c0'⟩) ?_
  · exact run_op_store _ _ _ _ _ rfl rfl rfl (page_store hB4)
  refine R_tk 8 5 (show Blk (w4.setRow g4 (pgCs (pg q) A c)) g6 50 (pgCs (pg q) A c) ∧ (w4.setRow g4 (pgCs (pg q) A c)).cell? ⟨ga, 0, none⟩ = some (ptr gp) from ⟨hB64.keep (heap_setRow_other _ _ _ _ (Ne.symm hne6)), (World.cell?_of_block (w := w4) (a := ⟨ga, 0, none⟩) (heap_setRow_other _ _ _ _ hne4)).trans c0'⟩) ?_
  simp only [List.setIfInBounds_toArray, List.set_cons_zero, List.set_cons_succ]
  refine R_done (by kernel_rfl) ?_ _
  rename_i K9 hK9
  refine hK9 _ _ ?_
  clear hK9
  have hB5 := hB4.setRow (pgCs (pg q) A c)
  have hT5 := (Turns.refl (only g4) w4).setRow (.inl rfl) (pgCs (pg q) A c)
  have hs34 : w3.heap.size ≤ w4.heap.size := hk4.size
  have hk34 : Kept (fun b => ((K b ∨ b = g4) ∨ rowK A (pg q).rows.length b) ∨ b = g6) w3 w4 := ⟨hk4.os, hk4.tape, hk4.output, hk4.size, hk4.block⟩
  have hs13 := hK13.size
  have hR4 : Reads (fun b => w1.heap.size ≤ b ∧ rowK A (pg q).rows.length b) w4 1 A (pg q).rows.length (rcs (pg q).rows) := hR3.keep hk4.size (fun b hb => hk4.block b (.inl (.inr hb.2)))
  have hR5 := hR4.turns hT5 (show Apart w4 (only g4) _ from fun b hb => ⟨(rowK_of hR4 hb.2).2, fun e => by have e : b = g4 := e; have := hb.1; omega⟩)
  have hL5 := (hL4.turns (F' := fun b => ((K b ∨ b = g4) ∨ rowK A (pg q).rows.length b) ∨ b = g6) ⟨hT5.os, hT5.tape, hT5.output, hT5.size, fun b hb hn => hT5.block b hb (fun e => hn (.inl (.inl (.inr e)))), fun b hb => .inl hb⟩).less (K' := fun b => K b ∨ rowK A (pg q).rows.length b) (fun b hb => hb.elim (fun h => .inl (.inl (.inl h))) (fun h => .inl (.inr h)))
  have hK5 : Kept K w (w4.setRow g4 (pgCs (pg q) A c)) := by
    refine ((Kept.of_below hb1 hlt).trans (hK13.trans (hk34.mono (fun b hb => .inl (.inl (.inl hb)))))).trans ⟨hT5.os, hT5.tape, hT5.output, hT5.size, fun b hb => hT5.block b ?_ (fun e => hK4 b hb e)⟩
    have := hlt b hb; have := hb1.size; omega
  have hACT5 : Blk (w4.setRow g4 (pgCs (pg q) A c)) ga 111 #[ptr gp, ptr gl] := hACT4.turns hT5 (fun e => hne4 e)
  generalize hw5 : World.setRow w4 g4 _ = w5 at hB5 hR5 hL5 hK5 hACT5 ⊢
  have z0 := hB5.cell 0
  have z1 := hB5.cell 1
  have z2 := hB5.cell 2
  have z3 := hB5.cell 3
  have z4 := hB5.cell 4
  have z5 := hB5.cell 5
  simp only [List.getElem?_toArray, List.getElem?_cons_succ, List.getElem?_cons_zero] at z0 z1 z2 z3 z4 z5
  have hs1 : w.heap.size ≤ w1.heap.size := hb1.size
  rw [hg4] at z0 z1 z2 z3 z4 z5
  clear hw5 hT5 hR4 hR3 hL4 hL3 hB4 hB64 c0' hACT4 hB5
  go_wp2_with fail
  exact bodyPost_ret (v := .tuple #[pgV (pg q) A c, .int .i64 0]) (by rw [results_cell_tmp rfl]; go_simp) rfl ⟨A, c, rfl, HA.out, hR5.mono (fun b hb => ⟨by omega, hb.2⟩), ⟨⟨hn1, _, hL5, hz'⟩, hACT5, .inl hkg⟩, hK5⟩
end Go.Proofs.YtclpmkinjjhncaaGreat

/- What (*Act).Do defers: every page that was pinned is unpinned. -/
namespace Go.Proofs.YtclpmkinjjhncaaGreat
open Go.RowKit Go.Conc Go.Maps

def Sp.R15.unpins (s : Sp.R15) (ks : List Nat) : Sp.R15 := ks.foldl (fun s k => (s.unpin k).2) s
theorem Sp.R15.unpins_add (s : Sp.R15) (ks : List Nat) (k : Nat) : s.unpins (ks ++ [k]) = ((s.unpins ks).unpin k).2 := by simp [Sp.R15.unpins]

theorem ranges_keep {P : Program} {k : TypeId} {w w' : World} {b r n cnt : Nat} {D : DataW Value} {left : Lit → Bool} (h : w.ranges P k heldElem b r n D left cnt) (h1 : w'.heap[b]? = w.heap[b]?) (h2 : w'.heap[r]? = w.heap[r]?) : w'.ranges P k heldElem b r n D left cnt := by
  unfold World.ranges at h ⊢
  rw [h1, h2]
  exact h

theorem cell_same {w w' : World} {a : Addr} (h : w'.heap[a.block]? = w.heap[a.block]?) : w'.cell? a = w.cell? a := by
  unfold World.cell?
  rw [h]

/-- What the deferred closure leaves. -/
def UnpPk (ly : Ly) (K : Foot) (w : World) (gd gl gp : Nat) (l : Sp.Lg) (s : Sp.R15) (lk : Nat → Option Value) (w' : World) : Prop :=
  ∃ ks : List Nat, ks.Nodup ∧ (∀ x, x ∈ ks ↔ (lk x).isSome) ∧ (∀ x ∈ ks, x < 4294967296) ∧ Kept K w w' ∧ PkAt ly K w' gd gl gp { l with forced := (s.unpins ks).forced } (s.unpins ks)

def UnpRel (ly : Ly) (K K' : Foot) (w : World) (gd gl gp : Nat) (l : Sp.Lg) (s : Sp.R15) (P : Program) (k : TypeId) (b r m : Nat) (D : DataW Value) (wr : World) : Prop :=
  ∃ left cnt ss, wr.ranges P k heldElem b r m D left cnt ∧ CameV D left ss ∧ Kept K w wr ∧ PkAt ly K' wr gd gl gp { l with forced := (s.unpins ss).forced } (s.unpins ss)

set_option maxRecDepth 100000 in
theorem do_unpins {ly : Ly} {K : Foot} {w : World} {ga gd gl gp : Nat} {l : Sp.Lg} {s : Sp.R15} (h : PkAt ly K w gd gl gp l s) {tm ta b m : Nat} {lk : Nat → Option Value}
    (hact : Blk w ga 111 #[ptr gp, ptr gl]) (hKa : K ga) (hm : w.cell? ⟨tm, 0, none⟩ = some (.map (some b))) (ha : w.cell? ⟨ta, 0, none⟩ = some (ptr ga)) (hKt : K ta) (hV : VMap Tryz.prog 25 w b m lk) (hKb : K b) (u : FrameMode) :
    CallsD Tryz.prog 39 #[.pointer (some ⟨tm, 0, none⟩), .pointer (some ⟨ta, 0, none⟩)] u w fun e u' w' => u' = u ∧ (e = .returned (.tuple #[]) ∧ UnpPk ly K w gd gl gp l s lk w') := by
  obtain ⟨D, hown, hvis⟩ := hV
  have hKl := h.lt
  have hblt := hKl b hKb
  have hUnp : ∀ (W : World) (K' : Foot) (s' : Sp.R15) (x : Nat), PkAt ly K' W gd gl gp { l with forced := s'.forced } s' → x < 4294967296 →
      Calls Tryz.prog 40 #[ptr gp, u32v x] W (CallPk ly K' W gd gl gp { l with forced := s'.forced } (s'.unpin x)) := fun W K' s' x hp hx => pk_unpin hp hx
  have HU := Lib.hid hUnp
  have HR := Lib.hid h
  have HA := Lib.hid hact
  go_enter_d Tryz.func39, Tryz.ntmps39
  go_wp2_with (first
    | (at_range; refine wpList_range_own _ rfl _ 109 rfl 25 50 (int_keyed Tryz.underlying25) Tryz.underlying109 _ b m _ rfl hown ?_; intro w0 hrg0 hg0 hs0)
    | fail)
  go_frame
  have hb0 : Below w.heap.size w w0 := ⟨hg0.os, hg0.tape, hg0.output, hg0.size, fun c hc => hg0.block c hc (by simp)⟩
  have hk0 : Kept K w w0 := Kept.of_below hb0 hKl
  have hp0 : PkAt ly (fun c => K c ∨ c = w.heap.size) w0 gd gl gp l s := HR.out.more hb0 (fun c hc => by
    rcases hc with hc | hc
    · exact .inl hc
    · exact .inr (by omega))
  have hp0' : PkAt ly (fun c => K c ∨ c = w.heap.size) w0 gd gl gp { l with forced := s.forced } s := by
    obtain ⟨p, dk, hr⟩ := HR.out.rep
    rw [← hr.lgs]; exact hp0
  clear hs0
  go_loopw [2] (fun _ wr => UnpRel ly K (fun c => K c ∨ c = w.heap.size) w gd gl gp l s Tryz.prog 25 b w.heap.size m D wr)
    (fun _ wr => wr.rangeLeft b w.heap.size)
  case atStart => exact ⟨_, _, [], hrg0, CameV.start D, hk0, hp0'⟩
  case round =>
    obtain ⟨left, cnt, ss, hrg, hC, hkr, hpr⟩ := hrel
    go_wp2_with (first
      | (at_next; refine wpList_next_ranges _ rfl _ rfl 25 (int_keyed Tryz.underlying25) heldElem u32v id (fun key kl hk => by obtain ⟨x, hx, _⟩ := keyOf_u32v Tryz.underlying25 hk; exact ⟨x, hx⟩) (fun v y hv => ⟨v, rfl⟩) b w.heap.size m _ _ _ rfl hrg ?_ ?_)
      | fail)
    · intro hc0 hl0
      go_wp2_with fail
      go_end0
      exact ⟨rfl, ss, (hC.all hl0 hvis).1, (hC.all hl0 hvis).2.1, (hC.all hl0 hvis).2.2, hkr, hpr.mono (fun c hc => .inl hc)⟩
    · intro x c kl yd yp w2 cnt2 hkey hlk hv hat hrg2 hlt hg2 hs2 hen
      obtain ⟨x', ex, rfl, hx32⟩ := keyOf_u32v Tryz.underlying25 hkey
      obtain rfl : x = x' := by
        simp only [u32v, Value.int.injEq, true_and] at ex
        omega
      have hk2 : Kept K wr w2 := ⟨hg2.os, hg2.tape, hg2.output, hg2.size, fun c hc => hg2.block c (hpr.lt c (.inl hc)) (fun e => by injection e with e; have := hKl c hc; omega)⟩
      have hp2 : PkAt ly (fun c => K c ∨ c = w.heap.size) w2 gd gl gp { l with forced := (s.unpins ss).forced } (s.unpins ss) :=
        hpr.turns (X := only w.heap.size) (X' := only w.heap.size) (Turns.refl _ _ |>.grown hg2 (fun k e => by injection e with e; exact .inl e.symm)) (fun c hc => .inl (.inr hc))
      have hkw2 : Kept K w w2 := hkr.trans hk2
      have hact2 : Blk w2 ga 111 #[ptr gp, ptr gl] := (hkw2.block ga hKa).trans HA.out
      have ha2 : w2.cell? ⟨ta, 0, none⟩ = some (ptr ga) := by rw [← ha]; exact cell_same (hkw2.block ta hKt)
      have hf2 := hact2.cell 0
      clear hs2
      go_wp2_with fail
      refine (HU.out w2 _ _ x hp2 hx32).mono ?_
      rintro e w3 ⟨hk3, rfl, hp3⟩
      go_wp2_with fail
      have hrg3 := ranges_keep hrg2 (hk3.block b (.inl hKb)) (hk3.block w.heap.size (.inr rfl))
      refine ⟨⟨_, cnt2, ss ++ [x], hrg3, hC.step hx32 hlk hat, hkw2.trans (hk3.mono (fun c hc => .inl hc)), ?_⟩, ?_⟩
      · rw [Sp.R15.unpins_add]; exact hp3
      · rw [hrg3.left_eq, hrg.left_eq]; exact hlt
end Go.Proofs.YtclpmkinjjhncaaGreat

/- What (*Act).Do holds on its way: the pool, the log, the disk, and the map of the pages it has pinned. -/
namespace Go.Proofs.YtclpmkinjjhncaaGreat
open Go.RowKit Go.Conc Go.Maps

def fPut (f : Nat → Option Sp.Pg) (k : Nat) (x : Sp.Pg) : Nat → Option Sp.Pg := fun q => if q = k then some x else f q

def PgIs (K' : Foot) (w : World) (b : Nat) (v : Option Value) : Option Sp.Pg → Prop
  | none => v = none
  | some x => ∃ A c, v = some (pgV x A c) ∧ OkAddr A ∧ RowsAt (fun c => K' c ∧ c ≠ b) w A x.rows

structure DoAt (ly : Ly) (K0 : Foot) (w0 : World) (ga gd gl gp tm ta b : Nat) (K' : Foot) (lk : Nat → Option Value) (n : Nat) (f : Nat → Option Sp.Pg) (l : Sp.Lg) (s : Sp.R15) (w : World) : Prop where
  kp : Kept K0 w0 w
  low : ∀ c, K0 c → c < w0.heap.size
  pk : PkAt ly K' w gd gl gp l s
  sub : ∀ c, K0 c → K' c
  act : Blk w ga 111 #[ptr gp, ptr gl]
  ka : K' ga
  cm : w.cell? ⟨tm, 0, none⟩ = some (.map (some b))
  km : K' tm
  ct : w.cell? ⟨ta, 0, none⟩ = some (ptr ga)
  kt : K' ta
  vm : VMap Tryz.prog 25 w b n lk
  kb : K' b
  new : w0.heap.size ≤ b
  nm : b ≠ tm
  nt : b ≠ ta
  na : b ≠ ga
  pg : ∀ k, PgIs K' w b (lk k) (f k)

section
variable {ly : Ly} {K0 K' K'' : Foot} {w0 w w' : World} {ga gd gl gp tm ta b n : Nat} {lk : Nat → Option Value} {f : Nat → Option Sp.Pg} {l l' : Sp.Lg} {s s' : Sp.R15}

theorem PgIs.kept {v : Option Value} {o : Option Sp.Pg} (h : PgIs K' w b v o) (hk : ∀ c, K' c → c ≠ b → w'.heap[c]? = w.heap[c]?) (hs : w.heap.size ≤ w'.heap.size) (hK : ∀ c, K' c → K'' c) : PgIs K'' w' b v o := by
  cases o with
  | none => exact h
  | some x =>
    obtain ⟨A, c, h1, h2, h3⟩ := h
    exact ⟨A, c, h1, h2, (h3.keep hs (fun c hc => hk c hc.1 hc.2)).mono (fun c hc => ⟨hK c hc.1, hc.2⟩)⟩

theorem DoAt.step (h : DoAt ly K0 w0 ga gd gl gp tm ta b K' lk n f l s w) (hk : Kept K' w w') (hp : PkAt ly K'' w' gd gl gp l' s') (hK : ∀ c, K' c → K'' c) : DoAt ly K0 w0 ga gd gl gp tm ta b K'' lk n f l' s' w' where
  kp := h.kp.trans (hk.mono h.sub)
  low := h.low
  pk := hp
  sub := fun c hc => hK c (h.sub c hc)
  act := (hk.block ga h.ka).trans h.act
  ka := hK _ h.ka
  cm := (cell_same (hk.block tm h.km)).trans h.cm
  km := hK _ h.km
  ct := (cell_same (hk.block ta h.kt)).trans h.ct
  kt := hK _ h.kt
  vm := h.vm.keep (hk.block b h.kb)
  kb := hK _ h.kb
  new := h.new
  nm := h.nm
  nt := h.nt
  na := h.na
  pg := fun k => (h.pg k).kept (fun c hc _ => hk.block c hc) hk.size hK

theorem DoAt.below (h : DoAt ly K0 w0 ga gd gl gp tm ta b K' lk n f l s w) (hb : Below w.heap.size w w') : DoAt ly K0 w0 ga gd gl gp tm ta b (fun c => K' c ∨ (w.heap.size ≤ c ∧ c < w'.heap.size)) lk n f l s w' :=
  h.step (Kept.of_below hb h.pk.lt) (h.pk.more hb (fun _ hc => hc)) (fun _ hc => .inl hc)

/-- A page is laid into the map. -/
theorem DoAt.put (h : DoAt ly K0 w0 ga gd gl gp tm ta b K' lk n f l s w) (hn : n < 1000000000) {k : Nat} (hk : k < 4294967296) {x : Sp.Pg} {A : Option Addr} {c : Nat} (hA : OkAddr A) (hR : RowsAt (fun c => K' c ∧ c ≠ b) w A x.rows) :
    ∃ w', (Instr.mapUpdate 109 (.map (some b)) (u32v k) (pgV x A c)).run Tryz.prog w = .ok () w' ∧ DoAt ly K0 w0 ga gd gl gp tm ta b K' (vPut lk k (pgV x A c)) (n + 1) (fPut f k x) l s w' ∧ w.grownBy w' (some b) := by
  obtain ⟨w', r1, r2, r3⟩ := h.vm.put Tryz.underlying25 Tryz.underlying109 hn hk (pgV x A c)
  have hne : ∀ c, K' c → c ≠ b → w'.heap[c]? = w.heap[c]? := fun c hc hn => r3.block c (h.pk.lt c hc) (fun e => by injection e with e; exact hn e)
  have hlow : ∀ c, K0 c → c ≠ b := fun c hc e => by have := h.low c hc; have := h.new; omega
  refine ⟨w', r1, ?_, r3⟩
  exact {
    kp := ⟨r3.os.trans h.kp.os, r3.tape.trans h.kp.tape, r3.output.trans h.kp.output, Nat.le_trans h.kp.size r3.size, fun c hc => (hne c (h.sub c hc) (hlow c hc)).trans (h.kp.block c hc)⟩
    low := h.low
    pk := h.pk.turns (X := only b) (X' := only b) ((Turns.refl _ _).grown r3 (fun k e => by injection e with e; exact .inl e.symm)) (fun c hc => .inl (by cases hc; exact h.kb))
    sub := h.sub
    act := (hne ga h.ka (fun e => h.na e.symm)).trans h.act
    ka := h.ka
    cm := (cell_same (hne tm h.km (fun e => h.nm e.symm))).trans h.cm
    km := h.km
    ct := (cell_same (hne ta h.kt (fun e => h.nt e.symm))).trans h.ct
    kt := h.kt
    vm := r2
    kb := h.kb
    new := h.new
    nm := h.nm
    nt := h.nt
    na := h.na
    pg := fun q => by
      by_cases hq : q = k
      · subst hq
        simp only [vPut, fPut, if_pos]
        exact ⟨A, c, rfl, hA, hR.keep r3.size (fun c hc => hne c hc.1 hc.2)⟩
      · simp only [vPut, fPut, if_neg hq]
        exact (h.pg q).kept hne r3.size (fun _ hc => hc) }

theorem page_zero (w : World) : (zeroValue 50).run Tryz.prog w = .ok zeroPgV w := by kernel_rfl

/-- A page is looked up. -/
theorem DoAt.look (h : DoAt ly K0 w0 ga gd gl gp tm ta b K' lk n f l s w) {k : Nat} (hk : k < 4294967296) {x : Sp.Pg} (hf : f k = some x) :
    ∃ A c, (Instr.lookup 109 (.map (some b)) (u32v k) false).run Tryz.prog w = .ok (pgV x A c) w ∧ OkAddr A ∧ RowsAt (fun c => K' c ∧ c ≠ b) w A x.rows := by
  have hp := h.pg k
  rw [hf] at hp
  obtain ⟨A, c, h1, h2, h3⟩ := hp
  exact ⟨A, c, h.vm.look Tryz.underlying25 Tryz.underlying109 (page_zero w) hk h1, h2, h3⟩

/-- The same, with the row of the pages' numbers. -/
def DoRow (ly : Ly) (K0 : Foot) (w0 : World) (ga gd gl gp tm ta b g : Nat) (cs : Array Value) (m : Nat) (f : Nat → Option Sp.Pg) (l : Sp.Lg) (s : Sp.R15) (w : World) : Prop :=
  ∃ K' lk n, n ≤ m ∧ DoAt ly K0 w0 ga gd gl gp tm ta b K' lk n f l s w ∧ Blk w g 25 cs ∧ K' g ∧ g ≠ b

/-- What is left behind the deferred closure. -/
theorem DoAt.unpins (h : DoAt ly K0 w0 ga gd gl gp tm ta b K' lk n f l s w) (u : FrameMode) :
    CallsD Tryz.prog 39 #[.pointer (some ⟨tm, 0, none⟩), .pointer (some ⟨ta, 0, none⟩)] u w fun e u' w' => u' = u ∧ (e = .returned (.tuple #[]) ∧
      ∃ ks : List Nat, ks.Nodup ∧ (∀ x, x ∈ ks ↔ (f x).isSome) ∧ Kept K0 w0 w' ∧ PkAt ly K0 w' gd gl gp { l with forced := (s.unpins ks).forced } (s.unpins ks)) := by
  refine (do_unpins h.pk h.act h.ka h.cm h.ct h.kt h.vm h.kb u).mono ?_
  rintro e u' w' ⟨rfl, rfl, ks, h1, h2, h3, h4, h5⟩
  refine ⟨rfl, rfl, ks, h1, fun x => ?_, h.kp.trans (h4.mono h.sub), h5.mono h.sub⟩
  rw [h2 x]
  have hp := h.pg x
  cases hf : f x with
  | none => rw [hf] at hp; rw [show lk x = none from hp]; simp
  | some y =>
    rw [hf] at hp
    obtain ⟨A, c, e, _⟩ := hp
    rw [e]
    simp
end
end Go.Proofs.YtclpmkinjjhncaaGreat
