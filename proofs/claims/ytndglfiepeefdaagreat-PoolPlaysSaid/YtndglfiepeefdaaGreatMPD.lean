/- The walks of package pool: take. -/
import Derived.Test.YtndglfiepeefdaaGreatMPC
import Derived.Test.YtndglfiepeefdaaGreatMPA
import Derived.Test.YtndglfiepeefdaaGreatMPB
import Derived.BigQuiet

namespace Go.Proofs.YtndglfiepeefdaaGreat
open Go.RowKit Go.Conc

def TakePost (F R : Foot) (w : World) (gp gd gl at_ base fb cb mb : Nat) (i : Nat) (fl ids : List Nat) (p : Sp.Pl) (e : Ending) (w' : World) : Prop :=
  e = .returned (.tuple #[.int .i64 i, .int .i64 0]) ∧ ∃ F' v' s' r' cs', IsPlAt F' R w' gp gd gl at_ base fb cb mb v' s' r' cs' fl ids p ∧ Turns F F' w w'

theorem chan_pop (i : Nat) (rest : List Nat) : ((i :: rest).map fun (i : Nat) => Value.int .i64 (i : Int)).toArray.getD 0 undef = .int .i64 i ∧
    ((i :: rest).map fun (i : Nat) => Value.int .i64 (i : Int)).toArray.extract 1 ((i :: rest).map fun (i : Nat) => Value.int .i64 (i : Int)).toArray.size = (rest.map fun (i : Nat) => Value.int .i64 (i : Int)).toArray := by
  constructor
  · simp
  · simp only [List.map_cons, List.extract_toArray, List.size_toArray, List.length_cons, List.length_map]
    congr 1
    simp [List.take_of_length_le]

set_option maxRecDepth 100000 in
set_option maxHeartbeats 2000000 in
theorem pool_take_free {F R : Foot} {w : World} {gp gd gl at_ base fb cb mb s r : Nat} {v : Value} {cs : Array Value} {ids : List Nat} {p : Sp.Pl} (h : IsPlAt F R w gp gd gl at_ base fb cb mb v s r cs p.free ids p)
    {i : Nat} {rest : List Nat} (hfree : p.free = i :: rest) :
    Calls Tryz.prog 105 #[ptr gp] w (TakePost F R w gp gd gl at_ base fb cb mb i rest ids p) := by
  refine calls_of_wpN Tryz.func105 rfl ?_
  simp only [Tryz.ntmps105, List.size_toArray, List.length_cons, List.length_nil, Nat.reduceAdd, Nat.reduceSub, Array.replicate_succ, Array.replicate_zero, List.push_toArray, List.append_toArray, List.nil_append, List.cons_append]
  obtain ⟨c0, c1, c2, c3, c4, c5, c6, c7⟩ := h.cells
  have hc := h.chan
  rw [hfree] at hc
  have hch := h.chans (fl' := rest) (s' := s) (r' := r + 1)
  have hgr := grown_setChan w cb p.n (rest.map fun (i : Nat) => Value.int .i64 (i : Int)).toArray false s (r + 1) false
  have ht := (Turns.refl F w).grown hgr (fun k hk => .inl (by injection hk with hk; rw [← hk]; exact h.foot.2.2.1))
  have HCH := Lib.hid hch
  clear c0 c1 c2 c3 c4 c6 c7 hch hgr h
  refine wpN_seq_k ?_
  intro K hK
  go_wp2_with fail
  refine wpN_seq ?_
  refine wpN_seq_k ?_
  intro K hK
  go_wp2_with fail
  refine wpN_seq ?_
  refine wpN_region ?_
  change wpT _ _ _ [0, 1, 2] _ _
  refine T_select_recv 0 12 (c := cb) (cap := p.n) (buf := ((i :: rest).map fun (i : Nat) => Value.int .i64 (i : Int)).toArray) (s := s) (r := r) (closed := false) (tm := false) (z := .int .i64 0) (w' := w) rfl rfl (by rfl) ?_ hc (by simp) ?_
  · go_simp
    rfl
  simp only [zSA, zSB, zSC]
  obtain ⟨e1, e2⟩ := chan_pop i rest
  rw [e1, e2]
  clear e1 e2 hc c5
  generalize w.setChan cb p.n (rest.map fun (i : Nat) => Value.int .i64 (i : Int)).toArray false s (r + 1) false = w8 at *
  refine T_value 1 13 (v := .int .i64 0) (w' := w8) rfl rfl (by rfl) (by go_simp) ?_
  simp only [zSA, zSB, zSC]
  refine T_value 2 14 (v := .bool true) (w' := w8) rfl rfl (by rfl) (by go_simp) ?_
  simp only [zSA, zSB, zSC]
  refine T_done ?_
  simp only [Exit.then]
  refine wpN_of_wp ?_
  go_wp2_with fail
  go_ret2
  exact ⟨rfl, _, _, _, _, _, HCH.out, ht⟩

theorem row_cell {w : World} {b cap : Nat} {ids : List Nat} (h : w.ownsRow 0 28 1 (.slice (some ⟨b, 0, none⟩) ids.length cap) ids.length (ids.map fun (i : Nat) => Value.int .u32 (i : Int))) {k : Nat} (hk : k < ids.length) : w.cell? ⟨b, k, none⟩ = some (u32v ids[k]!) := by
  rcases h.2 with ⟨h0, _⟩ | ⟨g, c, cur, h0, _, hh, h1, h2, h3, h4⟩
  · cases h0
  · injection h0 with a1 a2 a3
    injection a1 with a1
    injection a1 with a1
    subst a1
    rw [cell_of_row w b k cur _ (0, 0) hh]
    have := congrArg (fun l => l[k]?) h4
    simp only [Nat.mul_one, List.getElem?_take, hk, if_true] at this
    rw [Array.getElem?_toList] at this
    rw [this]
    simp [hk]

/-- What holds behind the drop of a page: what X says of it. -/
def DropX (X : Sp.It → Foot → World → World → Prop) (E : Nat → Sp.It → World → World → Prop) (R : Foot) (w : World) (gp gd gl at_ base fb cb mb : Nat) (fl ids : List Nat) (p : Sp.Pl) (it : Sp.It) (e : Ending) (w' : World) : Prop :=
  (∃ c : Nat, c ≠ 0 ∧ e = .returned (.int .i64 c) ∧ E c it w w') ∨
  e = .returned (.int .i64 0) ∧ ∃ F' v' s' r' cs', IsPlAt F' R w' gp gd gl at_ base fb cb mb v' s' r' cs' (fl ++ [it.idx]) (ids.filter (fun x => !(x == it.page.id))) (p.drop it.page.id it.idx) ∧ X it F' w w'

/-- take, where no frame is free: the first of the row that is not pinned goes. -/
def ScanPost (X : Sp.It → Foot → World → World → Prop) (E : Nat → Sp.It → World → World → Prop) (R : Foot) (w : World) (gp gd gl at_ base fb cb mb : Nat) (ids : List Nat) (p : Sp.Pl) (e : Ending) (w' : World) : Prop :=
  (e = .returned (.tuple #[.int .i64 0, .int .i64 4]) ∧ (∀ n ∈ ids, ∃ it, p.find n = some it ∧ 0 < it.pins) ∧ Turns noFoot noFoot w w') ∨
  (∃ pre it post, ids = pre ++ it.page.id :: post ∧ (∀ n ∈ pre, ∃ y, p.find n = some y ∧ 0 < y.pins) ∧ p.find it.page.id = some it ∧ it.pins = 0 ∧ ∃ c : Nat, c ≠ 0 ∧ e = .returned (.tuple #[.int .i64 0, .int .i64 c]) ∧ ∃ W, Turns noFoot noFoot w W ∧ E c it W w') ∨
  ∃ pre it post, ids = pre ++ it.page.id :: post ∧ (∀ n ∈ pre, ∃ y, p.find n = some y ∧ 0 < y.pins) ∧ p.find it.page.id = some it ∧ it.pins = 0 ∧ e = .returned (.tuple #[.int .i64 it.idx, .int .i64 0]) ∧
    ∃ W w1 F' v' s' r' cs', Turns noFoot noFoot w W ∧ X it F' W w1 ∧ IsPlAt F' R w' gp gd gl at_ base fb cb mb v' s' r' cs' [] (ids.filter (fun x => !(x == it.page.id))) (p.drop it.page.id it.idx) ∧ Turns (only cb) (only cb) w1 w'

set_option maxRecDepth 100000 in
set_option maxHeartbeats 4000000 in
theorem pool_take_scan {F R : Foot} {w : World} {gp gd gl at_ base fb cb mb s r : Nat} {v : Value} {cs : Array Value} {ids : List Nat} {p : Sp.Pl} (h : IsPlAt F R w gp gd gl at_ base fb cb mb v s r cs p.free ids p)
    (hfree : p.free = []) (hin : ∀ n ∈ ids, n < 4294967296 ∧ ∃ it, p.find n = some it) (hl : ids.length ≤ 64) (X : Sp.It → Foot → World → World → Prop) (E : Nat → Sp.It → World → World → Prop)
    (hD : ∀ it ∈ p.items, it.pins = 0 → ∀ W, IsPlAt F R W gp gd gl at_ base fb cb mb v s r cs p.free ids p → Turns noFoot noFoot w W → Calls Tryz.prog 67 #[ptr gp, u32v it.page.id] W (DropX X E R W gp gd gl at_ base fb cb mb p.free ids p it)) :
    Calls Tryz.prog 105 #[ptr gp] w (ScanPost X E R w gp gd gl at_ base fb cb mb ids p) := by
  refine calls_of_wpN Tryz.func105 rfl ?_
  simp only [Tryz.ntmps105, List.size_toArray, List.length_cons, List.length_nil, Nat.reduceAdd, Nat.reduceSub, Array.replicate_succ, Array.replicate_zero, List.push_toArray, List.append_toArray, List.nil_append, List.cons_append]
  have hc := h.chan
  rw [hfree] at hc
  obtain ⟨c0, c1, c2, c3, c4, c5, c6, c7⟩ := h.cells
  have H := Lib.hid h
  have HD := Lib.hid hD
  have HIN := Lib.hid hin
  have hids : ids = [] ∨ ∃ b cap, v = .slice (some ⟨b, 0, none⟩) ids.length cap ∧ ids.length ≤ cap := by
    rcases h.row.2 with ⟨_, h0⟩ | ⟨g, cap, cur, h0, _, hh, h1, h2, h3, h4⟩
    · exact .inl (List.eq_nil_of_length_eq_zero h0)
    · exact .inr ⟨g, cap, h0, h1⟩
  have hv : ∃ A n c, v = .slice A n c ∧ n = ids.length := by
    rcases h.row.2 with ⟨h0, h1⟩ | ⟨g, cap, cur, h0, _⟩
    · exact ⟨_, _, _, h0, h1.symm⟩
    · exact ⟨_, _, _, h0, rfl⟩
  obtain ⟨Av, nv, cv, rfl, rfl⟩ := hv
  clear c0 c1 c2 c3 c4 c6 h hD hin
  refine wpN_seq_k ?_
  intro K hK
  go_wp2_with fail
  refine wpN_seq ?_
  refine wpN_seq_k ?_
  intro K hK
  go_wp2_with fail
  refine wpN_seq ?_
  refine wpN_region ?_
  change wpT _ _ _ [0, 1, 2] _ _
  refine T_select_default 0 12 (c := cb) (cap := p.n) (s := s) (r := r) (tm := false) (z := .int .i64 0) (w' := w) rfl rfl (by rfl) ?_ hc ?_
  · go_simp
    rfl
  simp only [zSA, zSB, zSC]
  refine T_value 1 13 (v := .int .i64 (-1)) (w' := w) rfl rfl (by rfl) (by go_simp) ?_
  simp only [zSA, zSB, zSC]
  refine T_value 2 14 (v := .bool false) (w' := w) rfl rfl (by rfl) (by go_simp) ?_
  simp only [zSA, zSB, zSC]
  refine T_done ?_
  simp only [Exit.then]
  refine wpN_of_wp ?_
  go_wp2_with fail
  refine wpN_seq ?_
  refine wpN_seq_k ?_
  intro K hK
  go_wp2_with fail
  refine wpN_block ?_
  refine wpN_loop (fun a wr => ∃ (k : Nat) (u6 u23 u24 u25 u26 u27 u28 u29 u30 u31 u32 u33 u34 u35 u36 u37 u38 u39 u51 : Value), k ≤ ids.length ∧ a = { tmps := #[ptr gp, undef, .int .i64 0, .int .i64 0, undef, undef, u6, undef, ptr gp, .pointer (some ⟨gp, 0, none⟩), .pointer (some ⟨gp, 5, none⟩), .chan (some cb), .tuple #[goInt (-1), .bool false, .int .i64 0], .int .i64 (-1), .bool false, undef, undef, ptr gp, .pointer (some ⟨gp, 0, none⟩), .pointer (some ⟨gp, 7, none⟩), .slice Av ids.length cv, .int .i64 ids.length, .int .i64 (k : Nat), u23, u24, u25, u26, u27, u28, u29, u30, u31, u32, u33, u34, u35, u36, u37, u38, u39, undef, undef, undef, undef, undef, undef, undef, undef, undef, undef, undef, u51], defers := [] } ∧ Turns noFoot noFoot w wr ∧ ∀ n ∈ ids.take k, ∃ it, p.find n = some it ∧ 0 < it.pins) (fun a _ => ids.length - (intOf (a.tmps.getD 22 undef)).toNat) ?_ ?_
  · exact ⟨0, undef, undef, undef, undef, undef, undef, undef, undef, undef, undef, undef, undef, undef, undef, undef, undef, undef, undef, undef, Nat.zero_le _, rfl, Turns.refl _ _, by simp⟩
  rintro a wr ⟨k, u6, u23, u24, u25, u26, u27, u28, u29, u30, u31, u32, u33, u34, u35, u36, u37, u38, u39, u51, hk, rfl, htr, hpre⟩
  have hkp := H.out.keep htr.size (fun b hb => htr.block b (H.out.lt b hb) (fun e => e))
  by_cases hlt : k < ids.length
  · rcases hids with h0 | ⟨rb, rc, hv, hcap⟩
    · rw [h0] at hlt; exact absurd hlt (by simp)
    obtain ⟨rfl, rfl⟩ : Av = some ⟨rb, 0, none⟩ ∧ cv = rc := by injection hv with a1 a2 a3; exact ⟨a1, a3⟩
    have hck : wr.cell? ⟨rb, k, none⟩ = some (u32v ids[k]!) := by
      have := row_cell hkp.row hlt
      exact this
    obtain ⟨hid, it, hf⟩ := HIN.out ids[k]! (by rw [getElem!_pos _ k hlt]; exact List.getElem_mem hlt)
    have htk : ids.take (k + 1) = ids.take k ++ [ids[k]!] := by rw [List.take_succ_eq_append_getElem hlt, getElem!_pos _ k hlt]
    have hsplit : ids = ids.take k ++ ids[k]! :: ids.drop (k + 1) := by
      conv => lhs; rw [← List.take_append_drop k ids, List.drop_eq_getElem_cons hlt]
      rw [getElem!_pos _ k hlt]
    have hmeas : k + 1 ≤ ids.length := hlt
    have HTK := Lib.hid htk
    have HSP := Lib.hid hsplit
    clear htk hsplit
    generalize ids[k]! = id at *
    obtain ⟨hit, rfl⟩ := Sp.Pl.find_mem hf
    clear hv
    refine wpN_seq_k ?_
    intro K hK
    go_wp2_with fail
    refine wpN_seq_k ?_
    intro K hK
    go_wp2_with fail
    refine wpN_seq ?_
    refine wpN_block ?_
    refine wpN_seq_k ?_
    intro K hK
    go_wp2_with fail
    obtain ⟨c0, c1, c2, c3, c4, c5', c6, c7'⟩ := hkp.cells
    have cp := hkp.pins hit
    have hlk := (hkp.keep (w' := wr.drew) (Nat.le_refl _) (fun _ _ => rfl)).look hid hf
    have hlt9 := hkp.wf.idx_lt hit
    have hn64 := hkp.wf.n64
    have hS := Lib.hid (⟨c4, c6, hlk, cp⟩ : wr.drew.cell? ⟨gp, 4, none⟩ = some (.slice (some ⟨fb, 0, none⟩) p.n p.n) ∧ wr.drew.cell? ⟨gp, 6, none⟩ = some (.map (some mb)) ∧
      (Instr.lookup 106 (.map (some mb)) (u32v it.page.id) false).run Tryz.prog wr.drew = .ok (.int .i64 it.idx) wr.drew ∧ wr.drew.cell? ⟨fb, it.idx * 9 + 6, none⟩ = some (.int .i64 it.pins))
    have HKP := Lib.hid hkp
    clear c0 c1 c2 c3 c4 c5' c6 c7' cp hlk hkp hck
    refine wpN_seq_k ?_
    intro K hK
    go_wp2_with fail
    refine R_begin (fun W => W.cell? ⟨gp, 4, none⟩ = some (.slice (some ⟨fb, 0, none⟩) p.n p.n) ∧ W.cell? ⟨gp, 6, none⟩ = some (.map (some mb)) ∧
      (Instr.lookup 106 (.map (some mb)) (u32v it.page.id) false).run Tryz.prog W = .ok (.int .i64 it.idx) W ∧ W.cell? ⟨fb, it.idx * 9 + 6, none⟩ = some (.int .i64 it.pins)) (fun _ => false) rfl ?_
    refine R_take 0 26 (v := ?_) rfl rfl (by rfl) (by kernel_rfl) (fun _ _ _ h => h) hS.out ?_ ?_
    rotate_left
    · intro w hSw; (try dsimp only at hSw); go_simp; (try with_reducible rfl)
    simp only [zSA, zSB, zSC]
    refine R_take 1 27 (v := ?_) rfl rfl (by rfl) (by kernel_rfl) (fun _ _ _ h => h) hS.out ?_ ?_
    rotate_left
    · intro w hSw; (try dsimp only at hSw); go_simp; (try with_reducible rfl)
    simp only [zSA, zSB, zSC]
    refine R_take 2 28 (v := ?_) rfl rfl (by rfl) (by kernel_rfl) (fun _ _ _ h => h) hS.out ?_ ?_
    rotate_left
    · intro w hSw; (try dsimp only at hSw); go_simp; (try with_reducible rfl)
    simp only [zSA, zSB, zSC]
    refine R_take 3 29 (v := ?_) rfl rfl (by rfl) (by kernel_rfl) (fun _ _ _ h => h) hS.out ?_ ?_
    rotate_left
    · intro w hSw; (try dsimp only at hSw); go_simp; (try with_reducible rfl)
    simp only [zSA, zSB, zSC]
    refine R_take 4 30 (v := ?_) rfl rfl (by rfl) (by kernel_rfl) (fun _ _ _ h => h) hS.out ?_ ?_
    rotate_left
    · intro w hSw; (try dsimp only at hSw); go_simp; (try with_reducible rfl)
    simp only [zSA, zSB, zSC]
    refine R_take 5 31 (v := ?_) rfl rfl (by rfl) (by kernel_rfl) (fun _ _ _ h => h) hS.out ?_ ?_
    rotate_left
    · intro w hSw; (try dsimp only at hSw); go_simp; (try with_reducible rfl)
    simp only [zSA, zSB, zSC]
    refine R_take 6 32 (v := ?_) rfl rfl (by rfl) (by kernel_rfl) (fun _ _ _ h => h) hS.out ?_ ?_
    rotate_left
    · intro w hSw; (try dsimp only at hSw); go_simp; (try with_reducible rfl)
    simp only [zSA, zSB, zSC]
    refine R_take 7 33 (v := ?_) rfl rfl (by rfl) (by kernel_rfl) (fun _ _ _ h => h) hS.out ?_ ?_
    rotate_left
    · intro w hSw; (try dsimp only at hSw); go_simp; (try with_reducible rfl)
    simp only [zSA, zSB, zSC]
    refine R_take 8 34 (v := ?_) rfl rfl (by rfl) (by kernel_rfl) (fun _ _ _ h => h) hS.out ?_ ?_
    rotate_left
    · intro w hSw; (try dsimp only at hSw); go_simp; (try with_reducible rfl)
    simp only [zSA, zSB, zSC]
    refine R_take 9 35 (v := ?_) rfl rfl (by rfl) (by kernel_rfl) (fun _ _ _ h => h) hS.out ?_ ?_
    rotate_left
    · intro w hSw; (try dsimp only at hSw); go_simp; (try with_reducible rfl)
    simp only [zSA, zSB, zSC]
    refine R_take 10 36 (v := ?_) rfl rfl (by rfl) (by kernel_rfl) (fun _ _ _ h => h) hS.out ?_ ?_
    rotate_left
    · intro w hSw; (try dsimp only at hSw); go_simp; (try with_reducible rfl)
    simp only [zSA, zSB, zSC]
    refine R_take 11 37 (v := ?_) rfl rfl (by rfl) (by kernel_rfl) (fun _ _ _ h => h) hS.out ?_ ?_
    rotate_left
    · intro w hSw; (try dsimp only at hSw); go_simp; (try with_reducible rfl)
    simp only [zSA, zSB, zSC]
    refine R_take 12 38 (v := ?_) rfl rfl (by rfl) (by kernel_rfl) (fun _ _ _ h => h) hS.out ?_ ?_
    rotate_left
    · intro w hSw; (try dsimp only at hSw); go_simp; (try with_reducible rfl)
    simp only [zSA, zSB, zSC]
    refine R_take 13 39 (v := .bool (decide (0 < it.pins))) rfl rfl (by rfl) (by kernel_rfl) (fun _ _ _ h => h) hS.out ?_ ?_
    · intro w hSw; (try dsimp only at hSw); go_simp
    simp only [zSA, zSB, zSC]
    refine R_done (by kernel_rfl) ?_ _
    rename_i K9 hK9
    refine hK9 _ _ ?_
    have htd := htr.drew
    have hkd := HKP.out.keep (w' := wr.drew) (Nat.le_refl _) (fun _ _ => rfl)
    clear hS HKP htr
    generalize wr.drew = wd at *
    have HKD := Lib.hid hkd
    clear hkd
    go_wp2_with fail
    · rename_i hp
      refine wpN_of_wp ?_
      go_wp2_with fail
      refine ⟨⟨k + 1, hmeas, ⟨_, _, _, _, _, _, _, _, _, _, _, _, _, _, _, _, _, _, _, rfl⟩, htd, fun n hn => ?_⟩, by simp [intOf]; omega⟩
      rw [HTK.out] at hn
      rcases List.mem_append.1 hn with hn | hn
      · exact hpre n hn
      · rw [List.mem_singleton.1 hn]
        exact ⟨it, hf, hp⟩
    · rename_i hp
      have hp0 : it.pins = 0 := by omega
      have HDD := Lib.hid (HD.out it hit hp0 wd HKD.out htd)
      clear HD HKD
      refine wpN_seq_k ?_
      intro K hK
      go_wp2_with fail
      refine HDD.out.mono ?_
      rintro e w1 (⟨c4, hc4, rfl, hE⟩ | ⟨rfl, F', v', s', r', cs', h1, hX⟩)
      · have dc : ((c4 : Int) != 0) = true := by simpa using hc4
        go_wp2_with fail
        go_ret2
        exact .inr (.inl ⟨ids.take k, it, ids.drop (k + 1), HSP.out, hpre, hf, hp0, c4, hc4, rfl, wd, htd, hE⟩)
      rw [hfree, List.nil_append] at h1
      go_wp2_with fail
      obtain ⟨c0, c1, c2, c3, c4, c5', c6, c7'⟩ := h1.cells
      have hc1 := h1.chan
      have hch := h1.chans (fl' := []) (s' := s') (r' := r' + 1)
      change IsPlAt _ _ (w1.setChan cb p.n _ _ _ _ _) _ _ _ _ _ _ _ _ _ _ _ _ _ _ _ at hch
      have hgr := grown_setChan w1 cb p.n (([] : List Nat).map fun (i : Nat) => Value.int .i64 (i : Int)).toArray false s' (r' + 1) false
      have ht9 := (Turns.refl (only cb) w1).grown hgr (fun k hk => .inl (by injection hk with hk; exact hk.symm))
      have HCH := Lib.hid hch
      clear c0 c1 c2 c3 c4 c6 c7' hch hgr h1
      refine wpN_seq ?_
      refine wpN_region ?_
      change wpT _ _ _ [0, 1, 2, 3, 4, 5, 6] _ _
      refine T_value 0 46 (v := ptr gp) (w' := w1) rfl rfl (by rfl) (by go_simp) ?_
      simp only [zSA, zSB, zSC]
      refine T_value 1 47 (v := ptr gp) (w' := w1) rfl rfl (by rfl) (by go_simp) ?_
      simp only [zSA, zSB, zSC]
      refine T_value 2 48 (v := .pointer (some ⟨gp, 5, none⟩)) (w' := w1) rfl rfl (by rfl) (by go_simp) ?_
      simp only [zSA, zSB, zSC]
      refine T_value 3 49 (v := .chan (some cb)) (w' := w1) rfl rfl (by rfl) (by go_simp) ?_
      simp only [zSA, zSB, zSC]
      refine T_recv 4 50 (c := cb) (cap := p.n) (buf := ([it.idx].map fun (i : Nat) => Value.int .i64 (i : Int)).toArray) (s := s') (r := r') (closed := false) (tm := false) (z := .int .i64 0) (w' := w1) rfl rfl (by rfl) ?_ hc1 (by simp) ?_
      · go_simp
        rfl
      simp only [zSA, zSB, zSC]
      obtain ⟨e1, e2⟩ := chan_pop it.idx []
      rw [e1, e2]
      clear e1 e2 hc1 c5'
      generalize w1.setChan cb p.n (([] : List Nat).map fun (i : Nat) => Value.int .i64 (i : Int)).toArray false s' (r' + 1) false = w9 at *
      refine T_value 5 2 (v := .int .i64 it.idx) (w' := w9) rfl rfl (by rfl) (by go_simp) ?_
      simp only [zSA, zSB, zSC]
      refine T_value 6 3 (v := .int .i64 0) (w' := w9) rfl rfl (by rfl) (by go_simp) ?_
      simp only [zSA, zSB, zSC]
      refine T_done ?_
      simp only [Exit.then]
      refine wpN_of_wp ?_
      go_wp2_with fail
      go_ret2
      exact .inr (.inr ⟨ids.take k, it, ids.drop (k + 1), HSP.out, hpre, hf, hp0, rfl, wd, w1, F', v', s', r' + 1, cs', htd, hX, HCH.out, ht9⟩)
  · obtain rfl : k = ids.length := by omega
    rw [List.take_length] at hpre
    clear hkp
    refine wpN_seq_k ?_
    intro K hK
    go_wp2_with fail
    refine wpN_seq_k ?_
    intro K hK
    go_wp2_with fail
    refine wpN_of_wp ?_
    go_wp2_with fail
    go_ret2
    exact .inl ⟨rfl, hpre, htr⟩
end Go.Proofs.YtndglfiepeefdaaGreat

/- The walks of package pool: brings. -/
namespace Go.Proofs.YtndglfiepeefdaaGreat
open Go.RowKit Go.Conc

abbrev pgCs (x : Sp.Pg) (A : Option Addr) (c : Nat) : Array Value := #[.int .u8 x.kind, .int .u8 x.level, .int .u32 x.id, .int .u64 x.lsn, .int .u32 x.next, .slice A x.rows.length c]

/-- What brings asks of take: a frame, and what Z says; or none. -/
def TookPost (Z : Nat → Sp.Pl → List Nat → Foot → Foot → World → Prop) (Z4 : Nat → World → Prop) (H R : Foot) (w : World) (gp gd gl at_ base fb cb mb id : Nat) (e : Ending) (w' : World) : Prop :=
  (∃ c4 : Nat, c4 ≠ 0 ∧ e = .returned (.tuple #[.int .i64 0, .int .i64 c4]) ∧ Z4 c4 w' ∧ Turns H H w w') ∨
  ∃ (i : Nat) (p' : Sp.Pl) (F' H' : Foot) (v' : Value) (s' r' : Nat) (cs' : Array Value) (ids' rest : List Nat), e = .returned (.tuple #[.int .i64 i, .int .i64 0]) ∧ IsPlAt F' R w' gp gd gl at_ base fb cb mb v' s' r' cs' rest ids' p' ∧ p'.free = i :: rest ∧ p'.find id = none ∧ Turns H H' w w' ∧ (∀ b, F' b → H' b) ∧ Z i p' ids' F' H' w'

def BringPost (Z : Nat → Sp.Pl → List Nat → Foot → Foot → World → Prop) (Z4 : Nat → World → Prop) (H R G : Foot) (w : World) (gp gd gl at_ base fb cb mb : Nat) (x : Sp.Pg) (e : Ending) (w' : World) : Prop :=
  (∃ c4 : Nat, c4 ≠ 0 ∧ e = .returned (.int .i64 c4) ∧ Z4 c4 w' ∧ Turns H H w w') ∨
  ∃ (i : Nat) (p' : Sp.Pl) (F' H' : Foot) (v' : Value) (s' r' : Nat) (cs' : Array Value) (ids' rest : List Nat) (w2 : World), e = .returned (.int .i64 0) ∧ IsPlAt (fun b => F' b ∨ G b) (fun b => R b ∨ G b) w' gp gd gl at_ base fb cb mb v' s' r' cs' rest ids' (p'.bring x i rest) ∧ p'.free = i :: rest ∧ p'.find x.id = none ∧ Turns H H' w w2 ∧ (∀ b, F' b → H' b) ∧ Z i p' ids' F' H' w2 ∧ Turns F' F' w2 w'

set_option maxRecDepth 100000 in
set_option maxHeartbeats 4000000 in
theorem pool_brings {H R G : Foot} {w : World} {gp gd gl at_ base fb cb mb : Nat} {x : Sp.Pg} {A : Option Addr} {c : Nat} (hx : x.wf ∧ x.may) (hA : OkAddr A) (hR : RowsAt G w A x.rows) (hG : ∀ b, G b → ¬ H b ∧ b < w.heap.size) (hH : ∀ b, H b → b < w.heap.size)
    (Z : Nat → Sp.Pl → List Nat → Foot → Foot → World → Prop) (Z4 : Nat → World → Prop)
    (hT : Calls Tryz.prog 105 #[ptr gp] (w.alloc (.cells (pgCs x A c) 32)) (TookPost Z Z4 H R (w.alloc (.cells (pgCs x A c) 32)) gp gd gl at_ base fb cb mb x.id)) :
    Calls Tryz.prog 52 #[ptr gp, pgV x A c] w (BringPost Z Z4 H R G w gp gd gl at_ base fb cb mb x) := by
  have HT := Lib.hid hT
  have hb0 := Blk.new w 32 (pgCs x A c)
  have hR0 := Reads.below hR ((Below.refl w.heap.size w).alloc (Nat.le_refl _) (.cells (pgCs x A c) 32))
  have ht0 := (Turns.refl H w).alloc (.cells (pgCs x A c) 32)
  clear hT hR
  go_enter Tryz.func52, Tryz.ntmps52
  go_wp2_with fail
  obtain ⟨w1, hw1⟩ : ∃ w1, w1 = w.alloc (.cells (pgCs x A c) 32) := ⟨_, rfl⟩
  rw [← hw1] at HT hb0 hR0 ht0 ⊢
  obtain ⟨g3, hg3⟩ : ∃ g, g = w.heap.size := ⟨_, rfl⟩
  have hg3l : w.heap.size ≤ g3 := by omega
  rw [← hg3] at hb0 ⊢
  clear hw1 hg3
  refine HT.out.mono ?_
  rintro e w2 (⟨c4, hc4, rfl, hz, htz⟩ | ⟨i, p', F', H', v', s', r', cs', ids', rest, rfl, h2, hfree, hnone, ht2, hF', hZ⟩)
  · have dc : ((c4 : Int) != 0) = true := by simpa using hc4
    go_wp2_with fail
    go_ret
    exact .inl ⟨c4, hc4, rfl, hz, ht0.trans htz⟩
  have hnH : ¬ H g3 := fun h => by have := hH g3 h; omega
  have hb2 := hb0.turns ht2 hnH
  have hR2 := hR0.keep ht2.size (fun b hb => ht2.block b (by have := (hG b hb).2; have := ht0.size; omega) (hG b hb).1)
  have hGF : ∀ b, G b → ¬ F' b ∧ b < w2.heap.size := fun b hb => by
    have h1 := hG b hb
    have h2 := ht0.size
    have h3 := ht2.size
    refine ⟨fun hf => ?_, by omega⟩
    rcases ht2.foot b (hF' b hf) with h | h
    · exact h1.1 h
    · omega
  have hg3F : ¬ F' g3 := fun hf => by
    have := hb0.lt
    rcases ht2.foot g3 (hF' g3 hf) with h | h
    · exact hnH h
    · omega
  have hlt9 := h2.wf.free_lt (i := i) (by rw [hfree]; simp)
  have hn64 := h2.wf.n64
  have hlen := h2.wf.len
  obtain ⟨c0, c1, c2, c3, c4, c5, c6, c7⟩ := h2.cells
  have hcs := h2.fr.size
  have hB2 := h2.fr.blk
  have H2 := Lib.hid h2
  have hS := Lib.hid (⟨c4, hb2⟩ : w2.drew.cell? ⟨gp, 4, none⟩ = some (.slice (some ⟨fb, 0, none⟩) p'.n p'.n) ∧ Blk w2.drew g3 32 (pgCs x A c))
  clear c0 c1 c2 c3 c4 c5 c6 c7 h2 HT hb0 hR0
  go_wp2_with fail
  refine R_begin (fun W => W.cell? ⟨gp, 4, none⟩ = some (.slice (some ⟨fb, 0, none⟩) p'.n p'.n) ∧ Blk W g3 32 (pgCs x A c)) (fun j => j == 8) rfl ?_
  refine R_take 0 15 (v := ?_) rfl rfl (by rfl) (by kernel_rfl) (fun _ _ _ h => h) hS.out ?_ ?_
  rotate_left
  · intro w hSw; (try dsimp only at hSw); go_simp; (try with_reducible rfl)
  simp only [zSA, zSB, zSC]
  refine R_take 1 16 (v := ?_) rfl rfl (by rfl) (by kernel_rfl) (fun _ _ _ h => h) hS.out ?_ ?_
  rotate_left
  · intro w hSw; (try dsimp only at hSw); go_simp; (try with_reducible rfl)
  simp only [zSA, zSB, zSC]
  refine R_take 2 17 (v := ?_) rfl rfl (by rfl) (by kernel_rfl) (fun _ _ _ h => h) hS.out ?_ ?_
  rotate_left
  · intro w hSw; (try dsimp only at hSw); go_simp; (try with_reducible rfl)
  simp only [zSA, zSB, zSC]
  refine R_take 3 18 (v := ?_) rfl rfl (by rfl) (by kernel_rfl) (fun _ _ _ h => h) hS.out ?_ ?_
  rotate_left
  · intro w hSw; (try dsimp only at hSw); go_simp; (try with_reducible rfl)
  simp only [zSA, zSB, zSC]
  refine R_take 4 19 (v := ?_) rfl rfl (by rfl) (by kernel_rfl) (fun _ _ _ h => h) hS.out ?_ ?_
  rotate_left
  · intro w hSw; (try dsimp only at hSw); go_simp; (try with_reducible rfl)
  simp only [zSA, zSB, zSC]
  refine R_take 5 20 (v := pgV x A c) rfl rfl (by rfl) (by kernel_rfl) (fun _ _ _ h => h) hS.out ?_ ?_
  · intro w hSw
    exact run_op_load _ _ _ rfl rfl (run_loadVar_row w g3 _ _ _ _ _ hSw.2 Tryz.underlying32 rfl rfl)
  simp only [zSA, zSB, zSC]
  refine R_take 6 21 (v := .agg (frCells ⟨x, 0, false, 0, i⟩ A c).toArray) rfl rfl (by rfl) (by kernel_rfl) (fun _ _ _ h => h) hS.out ?_ ?_
  · intro w hSw
    go_simp
    rfl
  simp only [zSA, zSB, zSC]
  refine R_take 7 22 (v := ?_) rfl rfl (by rfl) (by kernel_rfl) (fun _ _ _ h => h) hS.out ?_ ?_
  rotate_left
  · intro w hSw; (try dsimp only at hSw); go_simp; (try with_reducible rfl)
  simp only [zSA, zSB, zSC]
  refine R_store 8 (n := .skip) (w' := w2.drew.setRow fb (partRow cs' (i * 9) (frCells ⟨x, 0, false, 0, i⟩ A c))) rfl rfl (by rfl) (by kernel_rfl) (run_op_store _ _ _ _ _ rfl rfl rfl (run_storeVar_part w2.drew fb (i * 9) _ _ cs' (frCells ⟨x, 0, false, 0, i⟩ A c).toArray hB2 fr_size (by rw [hcs]; show i * 9 + 9 ≤ p'.n * 9; omega) (frCells_one _ A c))) (.inl rfl) (fun h => nomatch h) ?_
  refine R_done (by kernel_rfl) ?_ _
  rename_i K9 hK9
  refine hK9 _ _ ?_
  obtain ⟨f1, f2, f3, f4, f5⟩ := H2.out.foot
  obtain ⟨n1, n2, n3, n4, n5, n6⟩ := H2.out.ne
  have hB4 := Blk.setRow (w := w2.drew) hB2 (partRow cs' (i * 9) (frCells ⟨x, 0, false, 0, i⟩ A c))
  have hk4 : ∀ b, b ≠ fb → (w2.drew.setRow fb (partRow cs' (i * 9) (frCells ⟨x, 0, false, 0, i⟩ A c))).heap[b]? = w2.heap[b]? := fun b hb => setRow_other w2.drew fb b _ hb
  have ht4 := (Turns.refl F' w2).drew.setRow (g := fb) (.inl f2) (partRow cs' (i * 9) (frCells ⟨x, 0, false, 0, i⟩ A c))
  have hg3b : g3 ≠ fb := fun e => hg3F (e ▸ f2)
  have hb4 := hb2.keep (hk4 g3 hg3b)
  have hP4 := H2.out.blk.keep (hk4 gp n1)
  have hM4 := H2.out.map.keep (hk4 mb (Ne.symm n5))
  obtain ⟨w4, hw4⟩ : ∃ w4, w4 = w2.drew.setRow fb (partRow cs' (i * 9) (frCells ⟨x, 0, false, 0, i⟩ A c)) := ⟨_, rfl⟩
  rw [← hw4] at hB4 hk4 ht4 hb4 hP4 hM4 ⊢
  clear hw4 hS
  have c6 := hP4.cell 6
  have ci := hb4.cell 2
  simp only [plCells, pgCs, zGA, zGB, zGC] at c6 ci
  have hS := Lib.hid (⟨c6, ci⟩ : w4.drew.cell? ⟨gp, 6, none⟩ = some (.map (some mb)) ∧ w4.drew.cell? ⟨g3, 2, none⟩ = some (u32v x.id))
  have hid : x.id < 4294967296 := hx.1.2.2.1
  clear c6 ci
  go_wp2_with fail
  refine R_begin (fun W => W.cell? ⟨gp, 6, none⟩ = some (.map (some mb)) ∧ W.cell? ⟨g3, 2, none⟩ = some (u32v x.id)) (fun j => j == 7) rfl ?_
  refine R_take 0 23 (v := ?_) rfl rfl (by rfl) (by kernel_rfl) (fun _ _ _ h => h) hS.out ?_ ?_
  rotate_left
  · intro w hSw; (try dsimp only at hSw); go_simp; (try with_reducible rfl)
  simp only [zSA, zSB, zSC]
  refine R_take 1 24 (v := ?_) rfl rfl (by rfl) (by kernel_rfl) (fun _ _ _ h => h) hS.out ?_ ?_
  rotate_left
  · intro w hSw; (try dsimp only at hSw); go_simp; (try with_reducible rfl)
  simp only [zSA, zSB, zSC]
  refine R_take 2 25 (v := ?_) rfl rfl (by rfl) (by kernel_rfl) (fun _ _ _ h => h) hS.out ?_ ?_
  rotate_left
  · intro w hSw; (try dsimp only at hSw); go_simp; (try with_reducible rfl)
  simp only [zSA, zSB, zSC]
  refine R_take 3 26 (v := ?_) rfl rfl (by rfl) (by kernel_rfl) (fun _ _ _ h => h) hS.out ?_ ?_
  rotate_left
  · intro w hSw; (try dsimp only at hSw); go_simp; (try with_reducible rfl)
  simp only [zSA, zSB, zSC]
  refine R_take 4 27 (v := ?_) rfl rfl (by rfl) (by kernel_rfl) (fun _ _ _ h => h) hS.out ?_ ?_
  rotate_left
  · intro w hSw; (try dsimp only at hSw); go_simp; (try with_reducible rfl)
  simp only [zSA, zSB, zSC]
  refine R_take 5 28 (v := ?_) rfl rfl (by rfl) (by kernel_rfl) (fun _ _ _ h => h) hS.out ?_ ?_
  rotate_left
  · intro w hSw; (try dsimp only at hSw); go_simp; (try with_reducible rfl)
  simp only [zSA, zSB, zSC]
  refine R_take 6 29 (v := ?_) rfl rfl (by rfl) (by kernel_rfl) (fun _ _ _ h => h) hS.out ?_ ?_
  rotate_left
  · intro w hSw; (try dsimp only at hSw); go_simp; (try with_reducible rfl)
  simp only [zSA, zSB, zSC]
  obtain ⟨w5, hput, hM5, hg5⟩ := UMap.put (w := w4.drew) hM4.drew Tryz.underlying28 Tryz.underlying3 Tryz.underlying106 (by omega) hid (i := i) (by omega) (by simp [Sp.Pl.lk, hnone])
  refine R_store 7 (n := .skip) (w' := w5) rfl rfl (by rfl) (by kernel_rfl) (by go_simp) (.inl rfl) (fun h => nomatch h) ?_
  refine R_done (by kernel_rfl) ?_ _
  rename_i K8 hK8
  refine hK8 _ _ ?_
  have ht5 := ht4.drew.grown hg5 (fun k hk => .inl (by injection hk with hk; rw [← hk]; exact f4))
  have hB5 := hB4.drew.grown hg5 (fun e => n5 (by injection e))
  have hsz9 : i * 9 + 9 ≤ cs'.size := by omega
  have hR5 := hR2.keep ht5.size (fun b hb => (ht5.block b (hGF b hb).2 (hGF b hb).1))
  have hbr := H2.out.bring (w' := w5) (x := x) (A := A) (c := c) (G := G) hfree hnone hx ht5.size (fun b hb h1 h2 => (hg5.block b (by have := H2.out.lt b hb; have := ht4.size; simp; omega) (fun e => h2 (by injection e))).trans (hk4 b h1)) hB5 (Framed.part rfl hsz9) hA hR5 (fun b hb => ⟨(hGF b hb).1, Nat.lt_of_lt_of_le (hGF b hb).2 ht5.size⟩) (fun j hj => part_at rfl hsz9 hj) hM5
  have HB := Lib.hid hbr
  clear hbr hg5 hput hM5 hM4 hP4 hB4 hB5 hk4 H2 hS
  go_wp2_with fail
  go_ret
  refine .inr ⟨i, p', F', H', v', s', r', _, ids', rest, w2, rfl, HB.out, hfree, hnone, ?_, hF', hZ, ht5⟩
  exact ht0.trans ht2
end Go.Proofs.YtndglfiepeefdaaGreat

/- The walks of package pool: Pin of a page that is in. -/
namespace Go.Proofs.YtndglfiepeefdaaGreat
open Go.RowKit Go.Conc

theorem Turns.then_new {F F' X : Foot} {w w1 w2 : World} {g : Nat} (h : Turns F F' w w1) (k : Turns (only g) X w1 w2) (hg : w.heap.size ≤ g) : Turns F F' w w2 :=
  ⟨k.os.trans h.os, k.tape.trans h.tape, k.output.trans h.output, Nat.le_trans h.size k.size, fun b hb hn => (k.block b (Nat.lt_of_lt_of_le hb h.size) (fun e => by have e : b = g := e; omega)).trans (h.block b hb hn), h.foot⟩

def PinInPost (F R : Foot) (w : World) (gp gd gl at_ base fb cb mb s r : Nat) (fl ids : List Nat) (p : Sp.Pl) (it : Sp.It) (e : Ending) (w' : World) : Prop :=
  ∃ F' v' cs' A c, e = .returned (.tuple #[pgV it.page A c, .int .i64 0]) ∧ OkAddr A ∧ RowsAt (fun b => w.heap.size ≤ b ∧ ¬ F' b) w' A it.page.rows ∧
    IsPlAt F' R w' gp gd gl at_ base fb cb mb v' s r cs' fl (ids.filter (fun x => !(x == it.page.id)) ++ [it.page.id]) (p.pinUp it.page.id) ∧ Turns F F' w w'

set_option maxRecDepth 100000 in
set_option maxHeartbeats 2000000 in
theorem pool_pin_in {F R : Foot} {w : World} {gp gd gl at_ base fb cb mb s r : Nat} {v : Value} {cs : Array Value} {fl ids : List Nat} {p : Sp.Pl} (h : IsPlAt F R w gp gd gl at_ base fb cb mb v s r cs fl ids p) {id : Nat} (hid : id < 4294967296) {it : Sp.It} (hf : p.find id = some it) (hp : it.pins < 1000000000) (hl : ids.length ≤ 64) :
    Calls Tryz.prog 11 #[ptr gp, u32v id] w (PinInPost F R w gp gd gl at_ base fb cb mb s r fl ids p it) := by
  obtain ⟨hit, rfl⟩ := Sp.Pl.find_mem hf
  have hb2 := Blk.new w 32 #[.int .u8 0, .int .u8 0, .int .u32 0, .int .u64 0, .int .u32 0, .slice none 0 0]
  have h2 := h.keep (w' := w.alloc (.cells #[.int .u8 0, .int .u8 0, .int .u32 0, .int .u64 0, .int .u32 0, .slice none 0 0] 32)) (by simp) (fun b hb => Below.heap_alloc w _ b (h.lt b hb))
  have ht0 := (Turns.refl F w).alloc (.cells #[.int .u8 0, .int .u8 0, .int .u32 0, .int .u64 0, .int .u32 0, .slice none 0 0] 32)
  have hg4 : ¬ F w.heap.size := fun hF => by have := h.lt _ hF; omega
  obtain ⟨c0, c1, c2, c3, c4, c5, c6, c7⟩ := h2.cells
  have HM := Lib.hid (pool_made c6)
  have hlk := h2.look_in hid hf
  have HPN := Lib.hid (pool_pins_walk h2 hid hf hp hl)
  have hlt9 := h2.wf.idx_lt hit
  have hn64 := h2.wf.n64
  clear h2 c0 c1 c2 c3 c4 c5 c7 h
  go_enter Tryz.func11, Tryz.ntmps11
  go_wp2_with fail
  have hg4l : w.heap.size ≤ w.heap.size := Nat.le_refl _
  obtain ⟨w2, hw2⟩ : ∃ w2, w2 = w.alloc (.cells #[.int .u8 0, .int .u8 0, .int .u32 0, .int .u64 0, .int .u32 0, .slice none 0 0] 32) := ⟨_, rfl⟩
  rw [← hw2] at HM HPN hlk hb2 ht0 c6 ⊢
  obtain ⟨g4, hg⟩ : ∃ g, g = w.heap.size := ⟨_, rfl⟩
  rw [← hg] at hb2 hg4 ⊢
  have hg4l : w.heap.size ≤ g4 := by omega
  clear hw2 hg
  refine HM.out.mono ?_
  rintro e w1 ⟨rfl, hw⟩
  subst w1
  go_wp2_with fail
  refine (HPN.out).mono ?_
  rintro e w3 ⟨F3, v3, cs3, rfl, h3, ht3⟩
  have hit3 : ({ it with pins := it.pins + 1 } : Sp.It) ∈ (p.pinUp it.page.id).items := List.mem_map.2 ⟨it, hit, by simp⟩
  obtain ⟨A, c, hA, hR, hc⟩ := h3.fr.item _ hit3
  have k0 := (h3.fr.blk.cell _).trans (hc 0 (by omega))
  have k1 := (h3.fr.blk.cell _).trans (hc 1 (by omega))
  have k2 := (h3.fr.blk.cell _).trans (hc 2 (by omega))
  have k3 := (h3.fr.blk.cell _).trans (hc 3 (by omega))
  have k4 := (h3.fr.blk.cell _).trans (hc 4 (by omega))
  have k5 := (h3.fr.blk.cell _).trans (hc 5 (by omega))
  simp only [frCells, List.getElem?_cons_succ, List.getElem?_cons_zero, Nat.add_zero] at k0 k1 k2 k3 k4 k5
  have hlr : it.page.rows.length ≤ 1000000 := by
    have := (h3.wf.pg _ hit3).2.2.2.2.2
    have : 4 * it.page.rows.length + Sp.total it.page.rows ≤ 484 := this
    omega
  have HCP := Lib.hid (pool_copied (c := c) hA hR hlr)
  have hg42 := hb2.lt
  have hb3 := hb2.turns ht3 hg4
  have H3 := Lib.hid h3
  have HF3 := Lib.hid h3.lt
  clear hA hR hc h3 hb2 HPN
  go_wp2_with fail
  refine HCP.out.mono ?_
  rintro e w4 ⟨A', c', rfl, hA', hR', hb4⟩
  have hB4 := hb3.below hb4 hb3.lt
  have z0 := hB4.cell 0
  have z1 := hB4.cell 1
  have z2 := hB4.cell 2
  have z3 := hB4.cell 3
  have z4 := hB4.cell 4
  have z5 := hB4.cell 5
  have f0 := hB4.frozen 0
  have f1 := hB4.frozen 1
  have f2 := hB4.frozen 2
  have f3 := hB4.frozen 3
  have f4 := hB4.frozen 4
  have f5 := hB4.frozen 5
  simp only [zGA, zGB, zGC] at z0 z1 z2 z3 z4 z5
  have h4 := H3.out.keep hb4.size (fun b hb => hb4.block b (H3.out.lt b hb))
  have HR := Lib.hid hR'
  have HA := Lib.hid hA'
  have H4 := Lib.hid h4
  have ht4 := ht3.next hb4
  have HB4 := Lib.hid hB4
  have hg4k := hb3.lt
  clear hR' hA' h4 hB4 H3 HCP k0 k1 k2 k3 k4 k5 hb3
  go_wp2_with fail
  obtain ⟨W8, hW8, hX8, ht8, hk8⟩ := six_set HB4.out (.int .u8 it.page.kind) (.int .u8 it.page.level) (.int .u32 it.page.id) (.int .u64 it.page.lsn) (.int .u32 it.page.next) (.slice A' it.page.rows.length c')
  rw [hW8]
  have z0 := hX8.cell 0
  have z1 := hX8.cell 1
  have z2 := hX8.cell 2
  have z3 := hX8.cell 3
  have z4 := hX8.cell 4
  have z5 := hX8.cell 5
  simp only [zGA, zGB, zGC] at z0 z1 z2 z3 z4 z5
  clear f0 f1 f2 f3 f4 f5 hW8
  refine bodyPost_ret (v := .tuple #[pgV it.page A' c', .int .i64 0]) (by rw [results_cell_tmp rfl]; go_simp) rfl ⟨F3, v3, cs3, A', c', rfl, HA.out, ?_, ?_, ?_⟩
  · have hz2 : w.heap.size ≤ w2.heap.size := ht0.size
    have hz3 := ht3.size
    exact (HR.out.keep ht8.size (fun b hb => hk8 b (fun e => by have hb : w3.heap.size ≤ b := hb; omega))).mono (fun b hb => by have hb : w3.heap.size ≤ b := hb; exact ⟨by omega, fun hF => by have := HF3.out b hF; omega⟩)
  · refine H4.out.keep ht8.size (fun b hb => hk8 b (fun e => ?_))
    rcases ht3.foot b hb with h | h
    · exact hg4 (e ▸ h)
    · omega
  · exact (ht0.trans ht4).then_new ht8 hg4l
end Go.Proofs.YtndglfiepeefdaaGreat

/- The walks of package pool: Pin of a page that is not in. -/
namespace Go.Proofs.YtndglfiepeefdaaGreat
open Go.RowKit Go.Conc

/-- the block of a page's rows. -/
def rowOf (w : World) (A : Option Addr) : Foot := fun b => (∃ o, A = some ⟨b, o, none⟩) ∧ b < w.heap.size
theorem rows_tight {G : Foot} {w : World} {A : Option Addr} {rows : List Sp.Bs} (h : RowsAt G w A rows) : RowsAt (fun b => G b ∧ rowOf w A b) w A rows :=
  ⟨h.1, fun hp => by
    obtain ⟨b, o, e, hg, hl, hc⟩ := h.2 hp
    exact ⟨b, o, e, ⟨hg, ⟨o, e⟩, hl⟩, hl, hc⟩⟩

abbrev zeroPgV : Value := .agg #[.int .u8 0, .int .u8 0, .int .u32 0, .int .u64 0, .int .u32 0, .slice none 0 0]
def PinOutPost (Z : Nat → Sp.Pl → List Nat → Foot → Foot → World → Prop) (Z4 : Nat → World → Prop) (H : Foot) (w : World) (gp gd gl at_ base fb cb mb : Nat) (x : Sp.Pg) (e : Ending) (w' : World) : Prop :=
  (∃ c4 : Nat, c4 ≠ 0 ∧ e = .returned (.tuple #[zeroPgV, .int .i64 c4]) ∧ ∃ w2 g4, Z4 c4 w2 ∧ w.heap.size ≤ g4 ∧ Turns (only g4) (only g4) w2 w') ∨
  ∃ (i : Nat) (p' : Sp.Pl) (F' H' : Foot) (ids' rest : List Nat) (w2 : World) (F3 R3 : Foot) (v3 : Value) (s3 r3 : Nat) (cs3 : Array Value) (A : Option Addr) (c : Nat), e = .returned (.tuple #[pgV x A c, .int .i64 0]) ∧ OkAddr A ∧ RowsAt (fun b => w.heap.size ≤ b ∧ ¬ F3 b ∧ w2.heap.size ≤ b) w' A x.rows ∧
    IsPlAt F3 R3 w' gp gd gl at_ base fb cb mb v3 s3 r3 cs3 rest (ids'.filter (fun y => !(y == x.id)) ++ [x.id]) ((p'.bring x i rest).pinUp x.id) ∧ p'.free = i :: rest ∧ p'.find x.id = none ∧ Z i p' ids' F' H' w2 ∧ (∀ b, F' b → H' b) ∧ Turns H H' w w2 ∧ (∃ G : Foot, (∀ b, G b → ¬ H' b ∧ w.heap.size ≤ b) ∧ Turns (fun b => F' b ∨ G b) F3 w2 w')

set_option maxRecDepth 100000 in
set_option maxHeartbeats 4000000 in
theorem pool_pin_out {F R H D : Foot} {w : World} {gp gd gl at_ base fb cb mb s r : Nat} {v : Value} {cs : Array Value} {fl ids : List Nat} {p : Sp.Pl} (h : IsPlAt F R w gp gd gl at_ base fb cb mb v s r cs fl ids p) {x : Sp.Pg} (hx : x.wf ∧ x.may) (hf : p.find x.id = none)
    {dk : Sp.Dk} (hdk : IsDk D w gd dk) (hfu : dk.fuse ≠ 0) (hlo : dk.loose = []) (hi : base + x.id * 4 + 4 ≤ dk.sure.length) (hpg : Sp.pageAt dk.sure (base + x.id * 4) = pgBytes x) (hH : ∀ b, H b → b < w.heap.size)
    (Z : Nat → Sp.Pl → List Nat → Foot → Foot → World → Prop) (Z4 : Nat → World → Prop)
    (hT : ∀ W, Below w.heap.size w W → IsPlAt F R W gp gd gl at_ base fb cb mb v s r cs fl ids p → Calls Tryz.prog 105 #[ptr gp] W (TookPost Z Z4 H R W gp gd gl at_ base fb cb mb x.id))
    (hids : ∀ i p' ids' F' H' w2, Z i p' ids' F' H' w2 → ids'.length ≤ 64) :
    Calls Tryz.prog 11 #[ptr gp, u32v x.id] w (PinOutPost Z Z4 H w gp gd gl at_ base fb cb mb x) := by
  have hid : x.id < 4294967296 := hx.1.2.2.1
  have hb2 := Blk.new w 32 #[.int .u8 0, .int .u8 0, .int .u32 0, .int .u64 0, .int .u32 0, .slice none 0 0]
  have hbw := (Below.refl w.heap.size w).alloc (Nat.le_refl _) (.cells #[.int .u8 0, .int .u8 0, .int .u32 0, .int .u64 0, .int .u32 0, .slice none 0 0] 32)
  have h2 := h.keep (w' := w.alloc (.cells #[.int .u8 0, .int .u8 0, .int .u32 0, .int .u64 0, .int .u32 0, .slice none 0 0] 32)) (by simp) (fun b hb => Below.heap_alloc w _ b (h.lt b hb))
  have hd2 := hdk.below hbw
  obtain ⟨c0, c1, c2, c3, c4, c5, c6, c7⟩ := h2.cells
  have HM := Lib.hid (pool_made c6)
  have hlk := h2.look_out hid hf
  have hg4l : w.heap.size ≤ w.heap.size := Nat.le_refl _
  have HT := Lib.hid hT
  have hFl := h.lt
  have hz0 : ∀ W, (Instr.build 32 #[]).run Tryz.prog W = .ok zeroPgV W := fun W => by kernel_rfl
  clear c1 c2 c4 c5 c7 h hT hf hdk
  go_enter Tryz.func11, Tryz.ntmps11
  go_wp2_with fail
  obtain ⟨w2, hw2⟩ : ∃ w2, w2 = w.alloc (.cells #[.int .u8 0, .int .u8 0, .int .u32 0, .int .u64 0, .int .u32 0, .slice none 0 0] 32) := ⟨_, rfl⟩
  rw [← hw2] at HM hlk hb2 hbw c0 c3 c6 h2 hd2 ⊢
  obtain ⟨g4, hg⟩ : ∃ g, g = w.heap.size := ⟨_, rfl⟩
  rw [← hg] at hb2 ⊢
  have hg4l : w.heap.size ≤ g4 := by omega
  clear hw2 hg
  refine HM.out.mono ?_
  rintro e w1 ⟨rfl, hw⟩
  subst w1
  go_wp2_with fail
  have hS := Lib.hid (⟨c0, c3⟩ : w2.drew.cell? ⟨gp, 0, none⟩ = some (ptr gd) ∧ w2.drew.cell? ⟨gp, 3, none⟩ = some (.int .i64 base))
  have HTR := Lib.hid (twin_read (w := w2.drew) (hd2.below (Below.refl _ w2).drew) hfu hlo base x.id hid hi)
  rw [hpg] at HTR
  have H2 := Lib.hid h2
  have hgp0 := h2.blk
  clear c0 c3 c6 h2 HM hlk
  refine R_begin (fun W => W.cell? ⟨gp, 0, none⟩ = some (ptr gd) ∧ W.cell? ⟨gp, 3, none⟩ = some (.int .i64 base)) (fun _ => false) rfl ?_
  refine R_take 0 28 (v := ?_) rfl rfl (by rfl) (by kernel_rfl) (fun _ _ _ h => h) hS.out ?_ ?_
  rotate_left
  · intro w hSw; (try dsimp only at hSw); go_simp; (try with_reducible rfl)
  simp only [zSA, zSB, zSC]
  refine R_take 1 29 (v := ?_) rfl rfl (by rfl) (by kernel_rfl) (fun _ _ _ h => h) hS.out ?_ ?_
  rotate_left
  · intro w hSw; (try dsimp only at hSw); go_simp; (try with_reducible rfl)
  simp only [zSA, zSB, zSC]
  refine R_take 2 30 (v := ?_) rfl rfl (by rfl) (by kernel_rfl) (fun _ _ _ h => h) hS.out ?_ ?_
  rotate_left
  · intro w hSw; (try dsimp only at hSw); go_simp; (try with_reducible rfl)
  simp only [zSA, zSB, zSC]
  refine R_take 3 31 (v := ?_) rfl rfl (by rfl) (by kernel_rfl) (fun _ _ _ h => h) hS.out ?_ ?_
  rotate_left
  · intro w hSw; (try dsimp only at hSw); go_simp; (try with_reducible rfl)
  simp only [zSA, zSB, zSC]
  refine R_take 4 32 (v := ?_) rfl rfl (by rfl) (by kernel_rfl) (fun _ _ _ h => h) hS.out ?_ ?_
  rotate_left
  · intro w hSw; (try dsimp only at hSw); go_simp; (try with_reducible rfl)
  simp only [zSA, zSB, zSC]
  refine R_take 5 33 (v := ?_) rfl rfl (by rfl) (by kernel_rfl) (fun _ _ _ h => h) hS.out ?_ ?_
  rotate_left
  · intro w hSw; (try dsimp only at hSw); go_simp; (try with_reducible rfl)
  simp only [zSA, zSB, zSC]
  refine R_take 6 34 (v := ?_) rfl rfl (by rfl) (by kernel_rfl) (fun _ _ _ h => h) hS.out ?_ ?_
  rotate_left
  · intro w hSw; (try dsimp only at hSw); go_simp; (try with_reducible rfl)
  simp only [zSA, zSB, zSC]
  refine R_take 7 35 (v := ?_) rfl rfl (by rfl) (by kernel_rfl) (fun _ _ _ h => h) hS.out ?_ ?_
  rotate_left
  · intro w hSw; (try dsimp only at hSw); go_simp; (try with_reducible rfl)
  simp only [zSA, zSB, zSC]
  refine R_take 8 36 (v := ?_) rfl rfl (by rfl) (by kernel_rfl) (fun _ _ _ h => h) hS.out ?_ ?_
  rotate_left
  · intro w hSw; (try dsimp only at hSw); go_simp; (try with_reducible rfl)
  simp only [zSA, zSB, zSC]
  refine R_call 9 37 (w' := w2.drew) rfl rfl (by rfl) (by kernel_rfl) ?_ HTR.out ?_
  · go_simp
  rintro e w3 ⟨rfl, hb3⟩
  have hgp3 := hgp0.drew.below hb3 hgp0.lt
  have hS3 : w3.cell? ⟨gp, 0, none⟩ = some (ptr gd) ∧ w3.cell? ⟨gp, 3, none⟩ = some (.int .i64 base) := ⟨(hgp3.cell 0).trans rfl, (hgp3.cell 3).trans rfl⟩
  refine ⟨_, rfl, fun _ => hS3, ?_⟩
  simp only [zSA, zSB, zSC]
  clear hS HTR
  have hS := Lib.hid hS3
  clear hS3
  refine R_take 10 27 (v := ?_) rfl rfl (by rfl) (by kernel_rfl) (fun _ _ _ h => h) hS.out ?_ ?_
  rotate_left
  · intro w hSw; (try dsimp only at hSw); go_simp; (try with_reducible rfl)
  simp only [zSA, zSB, zSC]
  refine R_take 11 38 (v := ?_) rfl rfl (by rfl) (by kernel_rfl) (fun _ _ _ h => h) hS.out ?_ ?_
  rotate_left
  · intro w hSw; (try dsimp only at hSw); go_simp; (try with_reducible rfl)
  simp only [zSA, zSB, zSC]
  refine R_take 12 39 (v := ?_) rfl rfl (by rfl) (by kernel_rfl) (fun _ _ _ h => h) hS.out ?_ ?_
  rotate_left
  · intro w hSw; (try dsimp only at hSw); go_simp; (try with_reducible rfl)
  simp only [zSA, zSB, zSC]
  refine R_take 13 8 (v := ?_) rfl rfl (by rfl) (by kernel_rfl) (fun _ _ _ h => h) hS.out ?_ ?_
  rotate_left
  · intro w hSw; (try dsimp only at hSw); go_simp; (try with_reducible rfl)
  simp only [zSA, zSB, zSC]
  refine R_take 14 9 (v := ?_) rfl rfl (by rfl) (by kernel_rfl) (fun _ _ _ h => h) hS.out ?_ ?_
  rotate_left
  · intro w hSw; (try dsimp only at hSw); go_simp; (try with_reducible rfl)
  simp only [zSA, zSB, zSC]
  refine R_done (by kernel_rfl) ?_ _
  rename_i K9 hK9
  refine hK9 _ _ ?_
  have hbd : Below w2.heap.size w2 w3 := (Below.refl w2.heap.size w2).drew.trans hb3
  have h3 := H2.out.keep hbd.size (fun b hb => hbd.block b (H2.out.lt b hb))
  have hb3' := hb2.below hbd hb2.lt
  have hbw3 : Below w.heap.size w w3 := hbw.trans (hbd.mono hbw.size)
  have HDEC := Lib.hid (page_decode (w := w3) hx.1 hx.2)
  clear hS hgp3 hgp0 H2 hb2 hbw hb3 hbd hpg
  go_wp2_with fail
  refine HDEC.out.mono ?_
  rintro e w4 ⟨A, c, rfl, hA, hR, hb4⟩
  have hg43 := hb3'.lt
  have hs34 := hb4.size
  have hb4' := hb3'.below hb4 hb3'.lt
  have h4 := h3.keep hb4.size (fun b hb => hb4.block b (h3.lt b hb))
  have hbw4 : Below w.heap.size w w4 := hbw3.trans (hb4.mono hbw3.size)
  have hR4 := rows_tight hR
  have HB4 := Lib.hid hb4'
  have H4 := Lib.hid h4
  have HA := Lib.hid hA
  have HR4 := Lib.hid hR4
  have hs30 := hbw3.size
  clear hA hR hR4 hb4' h4 h3 hb3' hb4 HDEC
  go_wp2_with fail
  have hb5 := (Below.refl w4.heap.size w4).alloc (Nat.le_refl _) (.cells (pgCs x A c) 32)
  have h5 := H4.out.keep hb5.size (fun b hb => hb5.block b (H4.out.lt b hb))
  have hR5 := Reads.below HR4.out hb5
  have hg45 := HB4.out.below hb5 HB4.out.lt
  have hbw5 : Below w.heap.size w _ := hbw4.trans (hb5.mono hbw4.size)
  have hs45 := hb5.size
  have hroF : ∀ b, (w3.heap.size ≤ b ∧ rowOf w4 A b) → b < w4.heap.size := fun b hb => hb.2.2
  obtain ⟨w5, hw5⟩ : ∃ w5, w5 = w4.alloc (.cells (pgCs x A c) 32) := ⟨_, rfl⟩
  change Calls Tryz.prog _ #[ptr gp, pgV x A c] (w4.alloc (.cells (pgCs x A c) 32)) _
  rw [← hw5] at h5 hR5 hg45 hbw5 hs45 ⊢
  clear hb5 HB4 H4 HR4
  have hb6 := (Below.refl w5.heap.size w5).alloc (Nat.le_refl _) (.cells (pgCs x A c) 32)
  have HBR := Lib.hid (pool_brings (w := w5) (H := H) (G := fun b => w3.heap.size ≤ b ∧ rowOf w4 A b) hx HA.out hR5 (fun b hb => ⟨fun hh => by have := hH b hh; have := hb.1; omega, by have := hroF b hb; omega⟩) (fun b hb => by have := hH b hb; have := hbw5.size; omega) Z Z4
    (HT.out _ (hbw5.trans (hb6.mono hbw5.size)) (h5.keep hb6.size (fun b hb => hb6.block b (h5.lt b hb)))))
  have htw5 := Turns.of_below hbw5 H
  have hg4H : ¬ H g4 := fun hh => by have := hH g4 hh; omega
  have hg4r : ¬ (w3.heap.size ≤ g4 ∧ rowOf w4 A g4) := fun hh => by omega
  clear hb6 HT h5 hbw5
  refine HBR.out.mono ?_
  rintro e w7 (⟨c4, hc4, rfl, hz, htz⟩ | ⟨i, p', F', H', v', s', r', cs', ids', rest, w6, rfl, h7, hfree, hnone, ht6, hF', hZ, ht7⟩)
  · have dc : ((c4 : Int) != 0) = true := by simpa using hc4
    have HB7 := Lib.hid (hg45.turns htz hg4H)
    have hg47 := HB7.out.lt
    have z0 := HB7.out.cell 0
    have f0 := HB7.out.frozen 0
    have z1 := HB7.out.cell 1
    have f1 := HB7.out.frozen 1
    have z2 := HB7.out.cell 2
    have f2 := HB7.out.frozen 2
    have z3 := HB7.out.cell 3
    have f3 := HB7.out.frozen 3
    have z4 := HB7.out.cell 4
    have f4 := HB7.out.frozen 4
    have z5 := HB7.out.cell 5
    have f5 := HB7.out.frozen 5
    simp only [zGA, zGB, zGC] at z0 z1 z2 z3 z4 z5
    clear hg45 HBR
    go_wp2_with fail
    obtain ⟨W8, hW8, hX8, ht8, hk8⟩ := six_set HB7.out (.int .u8 0) (.int .u8 0) (.int .u32 0) (.int .u64 0) (.int .u32 0) (.slice none 0 0)
    rw [hW8]
    have z0 := hX8.cell 0
    have z1 := hX8.cell 1
    have z2 := hX8.cell 2
    have z3 := hX8.cell 3
    have z4 := hX8.cell 4
    have z5 := hX8.cell 5
    simp only [zGA, zGB, zGC] at z0 z1 z2 z3 z4 z5
    clear f0 f1 f2 f3 f4 f5 hW8
    exact bodyPost_ret (v := .tuple #[zeroPgV, .int .i64 c4]) (by rw [results_cell_tmp rfl]; go_simp) rfl (.inl ⟨c4, hc4, rfl, w7, g4, hz, hg4l, ht8⟩)
  -- pins, copied
  obtain ⟨it, hite⟩ : ∃ it : Sp.It, it = ⟨x, 0, false, 0, i⟩ := ⟨_, rfl⟩
  obtain ⟨p2, hp2⟩ : ∃ p2, p2 = p'.bring x i rest := ⟨_, rfl⟩
  have hit : it ∈ p2.items := by rw [hp2, hite]; simp [Sp.Pl.bring]
  have hxe : x = it.page := by rw [hite]
  have hpin0 : it.pins < 1000000000 := by rw [hite]; simp
  rw [← hp2] at h7
  have hf2 : p2.find it.page.id = some it := Sp.Pl.find_of h7.wf hit
  have hl' := hids i p' ids' F' H' w6 hZ
  have HP2 := Lib.hid hp2
  have hg4H' : ¬ H' g4 := fun hh => by
    have hz := hg45.lt
    rcases ht6.foot g4 hh with h | h
    · exact hg4H h
    · omega
  have hg4F : ¬ (F' g4 ∨ (w3.heap.size ≤ g4 ∧ rowOf w4 A g4)) := fun hh => by
    rcases hh with hh | hh
    · exact hg4H' (hF' g4 hh)
    · exact hg4r hh
  have hb2 := (hg45.turns ht6 hg4H).turns ht7 (fun hh => hg4F (.inl hh))
  have HPN := Lib.hid (pool_pins_walk h7 (id := it.page.id) (by rw [← hxe]; exact hid) hf2 hpin0 hl')
  have hlt9 := h7.wf.idx_lt hit
  have hn64 := h7.wf.n64
  have hg4 := hg4F
  have hs67 := ht7.size
  have hs56 := ht6.size
  clear h7 hp2 hite hg45 HBR
  subst hxe
  go_wp2_with fail
  refine (HPN.out).mono ?_
  rintro e w8 ⟨F3, v3, cs3, rfl, h3, ht3⟩
  have hit3 : ({ it with pins := it.pins + 1 } : Sp.It) ∈ (p2.pinUp it.page.id).items := List.mem_map.2 ⟨it, hit, by simp⟩
  obtain ⟨A2, c2, hA, hR, hc⟩ := h3.fr.item _ hit3
  have k0 := (h3.fr.blk.cell _).trans (hc 0 (by omega))
  have k1 := (h3.fr.blk.cell _).trans (hc 1 (by omega))
  have k2 := (h3.fr.blk.cell _).trans (hc 2 (by omega))
  have k3 := (h3.fr.blk.cell _).trans (hc 3 (by omega))
  have k4 := (h3.fr.blk.cell _).trans (hc 4 (by omega))
  have k5 := (h3.fr.blk.cell _).trans (hc 5 (by omega))
  simp only [frCells, List.getElem?_cons_succ, List.getElem?_cons_zero, Nat.add_zero] at k0 k1 k2 k3 k4 k5
  have hlr : it.page.rows.length ≤ 1000000 := by
    have := (h3.wf.pg _ hit3).2.2.2.2.2
    have : 4 * it.page.rows.length + Sp.total it.page.rows ≤ 484 := this
    omega
  have HCP := Lib.hid (pool_copied (c := c2) hA hR hlr)
  have hg42 := hb2.lt
  have hb3 := hb2.turns ht3 hg4
  have H3 := Lib.hid h3
  have HF3l := Lib.hid h3.lt
  clear hA hR hc h3 hb2 HPN
  go_wp2_with fail
  refine HCP.out.mono ?_
  rintro e w9 ⟨A', c', rfl, hA', hR', hb4⟩
  have hB4 := hb3.below hb4 hb3.lt
  have z0 := hB4.cell 0
  have z1 := hB4.cell 1
  have z2 := hB4.cell 2
  have z3 := hB4.cell 3
  have z4 := hB4.cell 4
  have z5 := hB4.cell 5
  have f0 := hB4.frozen 0
  have f1 := hB4.frozen 1
  have f2 := hB4.frozen 2
  have f3 := hB4.frozen 3
  have f4 := hB4.frozen 4
  have f5 := hB4.frozen 5
  simp only [zGA, zGB, zGC] at z0 z1 z2 z3 z4 z5
  have h4 := H3.out.keep hb4.size (fun b hb => hb4.block b (H3.out.lt b hb))
  have HR := Lib.hid hR'
  have HA := Lib.hid hA'
  have H4 := Lib.hid h4
  have ht4 := ht3.next hb4
  have HB4 := Lib.hid hB4
  have hg4k := hb3.lt
  clear hR' hA' h4 hB4 H3 HCP k0 k1 k2 k3 k4 k5 hb3
  go_wp2_with fail
  obtain ⟨W8, hW8, hX8, ht8, hk8⟩ := six_set HB4.out (.int .u8 it.page.kind) (.int .u8 it.page.level) (.int .u32 it.page.id) (.int .u64 it.page.lsn) (.int .u32 it.page.next) (.slice A' it.page.rows.length c')
  rw [hW8]
  have z0 := hX8.cell 0
  have z1 := hX8.cell 1
  have z2 := hX8.cell 2
  have z3 := hX8.cell 3
  have z4 := hX8.cell 4
  have z5 := hX8.cell 5
  simp only [zGA, zGB, zGC] at z0 z1 z2 z3 z4 z5
  clear f0 f1 f2 f3 f4 f5 hW8
  have hF3 : ∀ b, F3 b → (F' b ∨ (w3.heap.size ≤ b ∧ rowOf w4 A b)) ∨ w7.heap.size ≤ b := fun b hb => ht3.foot b hb
  have hnF3 : ¬ F3 g4 := fun hh => by
    rcases hF3 g4 hh with h | h
    · exact hg4F h
    · omega
  have hz8 := ht3.size
  have hzw := htw5.size
  have hpl := H4.out.keep ht8.size (fun b hb => hk8 b (fun e => hnF3 (e ▸ hb)))
  rw [HP2.out] at hpl
  refine bodyPost_ret (v := .tuple #[pgV it.page A' c', .int .i64 0]) (by rw [results_cell_tmp rfl]; go_simp) rfl (.inr ⟨i, p', F', H', ids', rest, w6, F3, (fun b => R b ∨ (w3.heap.size ≤ b ∧ rowOf w4 A b)), v3, s', r', cs3, A', c', rfl, HA.out, ?_, hpl, hfree, hnone, hZ, hF', htw5.trans ht6, ⟨fun b => (w3.heap.size ≤ b ∧ rowOf w4 A b) ∨ b = g4, ?_, ?_⟩⟩)
  · exact (HR.out.keep ht8.size (fun b hb => hk8 b (fun e => by have hb : w8.heap.size ≤ b := hb; omega))).mono (fun b hb => by have hb : w8.heap.size ≤ b := hb; exact ⟨by omega, fun hF => by have := HF3l.out b hF; omega, by omega⟩)
  · rintro b (hb | rfl)
    · have hb4 := hroF b hb
      refine ⟨fun hh => ?_, by have := hb.1; omega⟩
      rcases ht6.foot b hh with h | h
      · have := hH b h; have := hb.1; omega
      · omega
    · exact ⟨hg4H', hg4l⟩
  · refine ⟨ht8.os.trans (ht4.os.trans ht7.os), ht8.tape.trans (ht4.tape.trans ht7.tape), ht8.output.trans (ht4.output.trans ht7.output), Nat.le_trans hs67 (Nat.le_trans ht4.size ht8.size), fun b hb hn => ?_, fun b hb => ?_⟩
    · rw [hk8 b (fun e => hn (.inr (.inr e))), ht4.block b (by omega) (fun h => hn (h.imp id (fun h => .inl h)))]
      exact ht7.block b hb (fun h => hn (.inl h))
    · rcases hF3 b hb with h | h
      · exact .inl (h.imp id (fun h => .inl h))
      · exact .inr (by omega)
end Go.Proofs.YtndglfiepeefdaaGreat

/- Pin, of a pool whose pages are all clean. -/
namespace Go.Proofs.YtndglfiepeefdaaGreat
open Go.RowKit Go.Conc

namespace Sp
/-- a page set last in the row. -/
def Pl.last (p : Pl) (id : Nat) : Pl := { p with items := p.items.filter (fun x => x.page.id != id) ++ p.items.filter (fun x => x.page.id == id) }
theorem Pl.last_perm (p : Pl) (id : Nat) : (p.last id).items.Perm p.items := by
  unfold Pl.last
  have h := List.filter_append_perm (fun x : It => x.page.id != id) p.items
  have e : (fun x : It => !(x.page.id != id)) = fun x => x.page.id == id := by funext x; simp [bne]
  rw [e] at h
  exact h
theorem filter_one : ∀ {l : List Nat} {a : Nat}, l.Nodup → a ∈ l → l.filter (fun x => x == a) = [a]
  | x :: l, a, hn, hm => by
    rw [List.nodup_cons] at hn
    by_cases e : x = a
    · subst e
      rw [List.filter_cons_of_pos (by simp), List.filter_eq_nil_iff.2]
      intro y hy
      have : y ≠ x := fun e => hn.1 (e ▸ hy)
      simpa using this
    · rw [List.filter_cons_of_neg (by simpa using e)]
      rcases List.mem_cons.1 hm with h | h
      · exact absurd h.symm e
      · exact filter_one hn.2 h
theorem Pl.last_ids {p : Pl} (h : (p.items.map (·.page.id)).Nodup) {id : Nat} (hm : id ∈ p.items.map (·.page.id)) : (p.last id).items.map (·.page.id) = (p.items.map (·.page.id)).filter (fun x => !(x == id)) ++ [id] := by
  unfold Pl.last
  rw [List.map_append]
  congr 1
  · rw [List.filter_map]; rfl
  · have := filter_one h hm
    rw [List.filter_map] at this
    exact this
end Sp

/-- Pin of a page that is in. -/
theorem pool_pin_in' {F : Foot} {w : World} {gp gd gl at_ base : Nat} {p : Sp.Pl} (h : IsPl F w gp gd gl at_ base p) {id : Nat} (hid : id < 4294967296) {it : Sp.It} (hf : p.find id = some it) (hp : it.pins < 1000000000) :
    Calls Tryz.prog 11 #[ptr gp, u32v id] w fun e w' => ∃ F' A c, e = .returned (.tuple #[pgV it.page A c, .int .i64 0]) ∧ OkAddr A ∧ RowsAt (fun b => w.heap.size ≤ b ∧ ¬ F' b) w' A it.page.rows ∧
      IsPl F' w' gp gd gl at_ base ((p.pinUp id).last id) ∧ Turns F F' w w' := by
  obtain ⟨hit, rfl⟩ := Sp.Pl.find_mem hf
  obtain ⟨R, fb, cb, mb, v, s, r, cs, h⟩ := h
  have hlen : (p.items.map (·.page.id)).length ≤ 64 := by
    have := h.wf.len; have := h.wf.n64
    rw [List.length_map]; omega
  refine (pool_pin_in h hid hf hp hlen).mono ?_
  rintro e w' ⟨F', v', cs', A, c, rfl, hA, hR, h', ht⟩
  refine ⟨F', A, c, rfl, hA, hR, ⟨R, fb, cb, mb, v', s, r, cs', ?_⟩, ht⟩
  have eu : ((p.pinUp it.page.id).items.map (·.page.id)) = p.items.map (·.page.id) := Sp.Pl.upd_ids ⟨fun _ => rfl, fun _ => rfl⟩
  have e1 := Sp.Pl.last_ids (p := p.pinUp it.page.id) h'.wf.ids (id := it.page.id) (by rw [eu]; exact List.mem_map.2 ⟨it, hit, rfl⟩)
  rw [eu] at e1
  have := h'.perm (Sp.Pl.last_perm (p.pinUp it.page.id) it.page.id)
  rw [← e1] at this
  exact this

/-- What take leaves of a pool whose pages are all clean. -/
def ZClean (p : Sp.Pl) (ids : List Nat) : Nat → Sp.Pl → List Nat → Foot → Foot → World → Prop := fun _ p' ids' _ _ _ =>
  (p' = p ∧ ids' = ids) ∨ ∃ pre it post, p.free = [] ∧ ids = pre ++ it.page.id :: post ∧ (∀ n ∈ pre, ∃ y, p.find n = some y ∧ 0 < y.pins) ∧ p.find it.page.id = some it ∧ it.pins = 0 ∧ p' = p.drop it.page.id it.idx ∧ ids' = ids.filter (fun x => !(x == it.page.id))
def Z4Clean (w : World) (p : Sp.Pl) (ids : List Nat) : Nat → World → Prop := fun c4 w2 => c4 = 4 ∧ p.free = [] ∧ (∀ n ∈ ids, ∃ it, p.find n = some it ∧ 0 < it.pins) ∧ Below w.heap.size w w2

theorem take_clean {F R : Foot} {w : World} {gp gd gl at_ base fb cb mb s r : Nat} {v : Value} {cs : Array Value} {ids : List Nat} {p : Sp.Pl} (hclean : ∀ it ∈ p.items, it.dirty = false) (hids : ids = p.items.map (·.page.id)) {id : Nat} (hf : p.find id = none)
    (W : World) (hb : Below w.heap.size w W) (h : IsPlAt F R W gp gd gl at_ base fb cb mb v s r cs p.free ids p) :
    Calls Tryz.prog 105 #[ptr gp] W (TookPost (ZClean p ids) (Z4Clean w p ids) F R W gp gd gl at_ base fb cb mb id) := by
  have hlen : ids.length ≤ 64 := by
    have := h.wf.len; have := h.wf.n64
    rw [hids, List.length_map]; omega
  have hids32 : ∀ it ∈ p.items, it.page.id < 4294967296 := fun it hit => (h.wf.pg it hit).1.2.2.1
  cases hfr : p.free with
  | cons i rest =>
    refine (pool_take_free h hfr).mono ?_
    rintro e w' ⟨rfl, F', v', s', r', cs', h', ht⟩
    exact .inr ⟨i, p, F', F', v', s', r', cs', ids, rest, rfl, h', hfr, hf, ht, fun _ h => h, .inl ⟨rfl, rfl⟩⟩
  | nil =>
    have hin : ∀ n ∈ ids, n < 4294967296 ∧ ∃ it, p.find n = some it := fun n hn => by
      rw [hids] at hn
      obtain ⟨it, hit, rfl⟩ := List.mem_map.1 hn
      exact ⟨hids32 it hit, it, Sp.Pl.find_of h.wf hit⟩
    refine (pool_take_scan h hfr hin hlen (fun _ F' W1 w1 => Turns F F' W1 w1) (fun _ _ _ _ => False) (fun it hit hp W1 h1 ht1 => ?_)).mono ?_
    · refine (pool_drops_clean h1 (hids32 it hit) (Sp.Pl.find_of h.wf hit) (hclean it hit)).mono ?_
      rintro e w' ⟨rfl, F', v', cs', h', ht'⟩
      exact .inr ⟨rfl, F', v', _, _, cs', h', ht'⟩
    · rintro e w' (⟨rfl, hall, ht⟩ | ⟨_, _, _, _, _, _, _, _, _, _, _, _, hF⟩ | ⟨pre, it, post, hsp, hpre, hfi, hp0, rfl, W1, w1, F', v', s', r', cs', ht1, hX, h', ht2⟩)
      · exact .inl ⟨4, by decide, rfl, ⟨rfl, hfr, hall, hb.trans ((ht.below_none).mono hb.size)⟩, ht.wider (fun _ h => h.elim) (fun b hb => .inl hb)⟩
      · exact hF.elim
      · refine .inr ⟨it.idx, p.drop it.page.id it.idx, F', F', v', s', r', cs', _, [], rfl, h', ?_, ?_, ?_, fun _ h => h, .inr ⟨pre, it, post, hfr, hsp, hpre, hfi, hp0, rfl, rfl⟩⟩
        · simp [Sp.Pl.drop, hfr]
        · rw [Sp.Pl.find_none] at hf ⊢
          exact fun y hy => hf y (List.mem_filter.1 hy).1
        · have hcb := h'.foot.2.2.1
          refine ⟨ht2.os.trans (hX.os.trans ht1.os), ht2.tape.trans (hX.tape.trans ht1.tape), ht2.output.trans (hX.output.trans ht1.output), Nat.le_trans ht1.size (Nat.le_trans hX.size ht2.size), fun b hb hn => ?_, fun b hb => ?_⟩
          · have hz1 := ht1.size
            have hz2 := hX.size
            rw [ht2.block b (by omega) (fun e => by
              have e : b = cb := e
              rcases hX.foot cb hcb with h | h
              · exact hn (e ▸ h)
              · omega), hX.block b (by omega) hn]
            exact ht1.block b hb (fun e => e)
          · rcases hX.foot b hb with h | h
            · exact .inl h
            · exact .inr (Nat.le_trans ht1.size h)

/-- Pin of a page that is not in, of a pool whose pages are all clean. -/
theorem pool_pin_out' {F D : Foot} {w : World} {gp gd gl at_ base : Nat} {p : Sp.Pl} (h : IsPl F w gp gd gl at_ base p) (hclean : ∀ it ∈ p.items, it.dirty = false) {x : Sp.Pg} (hx : x.wf ∧ x.may) (hf : p.find x.id = none)
    {dk : Sp.Dk} (hdk : IsDk D w gd dk) (hfu : dk.fuse ≠ 0) (hlo : dk.loose = []) (hi : base + x.id * 4 + 4 ≤ dk.sure.length) (hpg : Sp.pageAt dk.sure (base + x.id * 4) = pgBytes x) :
    Calls Tryz.prog 11 #[ptr gp, u32v x.id] w fun e w' =>
      (e = .returned (.tuple #[zeroPgV, .int .i64 4]) ∧ p.free = [] ∧ (∀ it ∈ p.items, 0 < it.pins) ∧ IsPl F w' gp gd gl at_ base p ∧ Turns F F w w') ∨
      ∃ F' A c p' i rest, e = .returned (.tuple #[pgV x A c, .int .i64 0]) ∧ OkAddr A ∧ RowsAt (fun b => w.heap.size ≤ b ∧ ¬ F' b) w' A x.rows ∧ p'.free = i :: rest ∧ p'.find x.id = none ∧
        IsPl F' w' gp gd gl at_ base ((p'.bring x i rest).pinUp x.id) ∧ Turns F F' w w' ∧
        (p' = p ∨ (p.free = [] ∧ ∃ pre it post, p.items = pre ++ it :: post ∧ (∀ y ∈ pre, 0 < y.pins) ∧ it.pins = 0 ∧ p' = p.drop it.page.id it.idx)) := by
  obtain ⟨R, fb, cb, mb, v, s, r, cs, h⟩ := h
  have hlen : (p.items.map (·.page.id)).length ≤ 64 := by
    have := h.wf.len; have := h.wf.n64
    rw [List.length_map]; omega
  refine (pool_pin_out (H := F) h hx hf hdk hfu hlo hi hpg h.lt (ZClean p (p.items.map (·.page.id))) (Z4Clean w p (p.items.map (·.page.id))) (fun W hb hW => take_clean hclean rfl hf W hb hW) (fun i p' ids' F' H' w2 hZ => ?_)).mono ?_
  · rcases hZ with ⟨_, rfl⟩ | ⟨pre, it, post, _, _, _, _, _, _, rfl⟩
    · exact hlen
    · exact Nat.le_trans (List.length_filter_le _ _) hlen
  rintro e w' (⟨c4, hc4, rfl, w2, g4, ⟨rfl, hfr, hall, hb⟩, hg4, ht⟩ | ⟨i, p', F', H', ids', rest, w2, F3, R3, v3, s3, r3, cs3, A, c, rfl, hA, hR, h', hfree, hnone, hZ, hF', ht, G, hG, ht3⟩)
  · have hsz := hb.size
    have hb' : Below w.heap.size w w' := hb.trans (ht.below hsz (fun b e => by have e : b = g4 := e; omega))
    refine .inl ⟨rfl, hfr, fun it hit => ?_, ⟨R, fb, cb, mb, v, s, r, cs, h.keep hb'.size (fun b hF => hb'.block b (h.lt b hF))⟩, Turns.of_below hb' F⟩
    obtain ⟨y, hy, hp⟩ := hall it.page.id (List.mem_map.2 ⟨it, hit, rfl⟩)
    rw [Sp.Pl.find_of h.wf hit] at hy
    injection hy with hy
    rw [hy]; exact hp
  · refine .inr ⟨F3, A, c, p', i, rest, rfl, hA, hR.mono (fun b hb => ⟨hb.1, hb.2.1⟩), hfree, hnone, ⟨R3, fb, cb, mb, v3, s3, r3, cs3, ?_⟩, ?_, ?_⟩
    · have hids : ids' = p'.items.map (·.page.id) := by
        rcases hZ with ⟨rfl, rfl⟩ | ⟨pre, it, post, _, _, _, _, _, rfl, rfl⟩
        · rfl
        · simp only [Sp.Pl.drop]
          rw [List.filter_map]
          rfl
      have hnot : ids'.filter (fun y => !(y == x.id)) = ids' := by
        rw [List.filter_eq_self]
        intro a ha
        rw [hids] at ha
        obtain ⟨y, hy, rfl⟩ := List.mem_map.1 ha
        have := Sp.Pl.find_none.1 hnone y hy
        simpa using this
      have e2 : (((p'.bring x i rest).pinUp x.id).items.map (·.page.id)) = ids'.filter (fun y => !(y == x.id)) ++ [x.id] := by
        rw [hnot, hids]
        refine (Sp.Pl.upd_ids (p := p'.bring x i rest) (id := x.id) (f := fun y => { y with pins := y.pins + 1 }) ⟨fun _ => rfl, fun _ => rfl⟩).trans ?_
        simp [Sp.Pl.bring]
      rw [e2]
      exact h'
    · refine ⟨ht3.os.trans ht.os, ht3.tape.trans ht.tape, ht3.output.trans ht.output, Nat.le_trans ht.size ht3.size, fun b hb hn => ?_, fun b hb => ?_⟩
      · have hz := ht.size
        rw [ht3.block b (by omega) (fun hh => by
          rcases hh with hh | hh
          · rcases ht.foot b (hF' b hh) with h1 | h1
            · exact hn h1
            · omega
          · have := (hG b hh).2; omega)]
        exact ht.block b hb hn
      · rcases ht3.foot b hb with hh | hh
        · rcases hh with hh | hh
          · exact ht.foot b (hF' b hh)
          · exact .inr (hG b hh).2
        · exact .inr (Nat.le_trans ht.size hh)
    · rcases hZ with ⟨rfl, _⟩ | ⟨pre, it, post, hfr, hsp, hpre, hfi, hp0, rfl, _⟩
      · exact .inl rfl
      · refine .inr ⟨hfr, ?_⟩
        obtain ⟨l1, l2, e1, e2, e3⟩ := List.map_eq_append_iff.1 hsp
        obtain ⟨y, l3, e4, e5, e6⟩ := List.map_eq_cons_iff.1 e3
        have hy : y ∈ p.items := by rw [e1, e4]; simp
        have hye : y = it := by
          have := Sp.Pl.find_of h.wf hy
          rw [e5, hfi] at this
          injection this with this
          exact this.symm
        subst hye
        refine ⟨l1, y, l3, by rw [e1, e4], fun z hz => ?_, hp0, rfl⟩
        obtain ⟨q, hq, hqp⟩ := hpre z.page.id (by rw [← e2]; exact List.mem_map.2 ⟨z, hz, rfl⟩)
        rw [Sp.Pl.find_of h.wf (by rw [e1]; exact List.mem_append_left _ hz)] at hq
        injection hq with hq
        rw [hq]; exact hqp
end Go.Proofs.YtndglfiepeefdaaGreat

/- drops and take of a pool with its disk and its log. -/
namespace Go.Proofs.YtndglfiepeefdaaGreat
open Go.RowKit Go.Conc

theorem sorted_one (n : Nat) : Sp.sorted [n] = [n] := List.perm_singleton.1 (Sp.sorted_spec [n]).1

theorem Wrote.keep {at_ base : Nat} {p p' : Sp.Pl} {d d' : Sp.Dk} {l l' : Sp.Lg} {q : List Nat} {c : Nat} (h : Wrote at_ base p d l q c p' d' l') :
    p'.free = p.free ∧ p'.n = p.n ∧ p'.items.map (·.page.id) = p.items.map (·.page.id) ∧ (c ≠ 0 → p' = p ∧ d' = d ∧ l' = l) ∧ ∀ n it, p.find n = some it → ∃ it', p'.find n = some it' ∧ it'.idx = it.idx ∧ it'.pins = it.pins ∧ it'.page = it.page := by
  rcases h with ⟨_, rfl, rfl, rfl, rfl⟩ | ⟨_, _, rfl, rfl, rfl, rfl⟩ | ⟨_, _, rfl, rfl, rfl, rfl⟩
  · exact ⟨rfl, rfl, rfl, fun h => absurd rfl h, fun n it hf => ⟨it, hf, rfl, rfl, rfl⟩⟩
  · exact ⟨rfl, rfl, rfl, fun _ => ⟨rfl, rfl, rfl⟩, fun n it hf => ⟨it, hf, rfl, rfl, rfl⟩⟩
  · refine ⟨rfl, rfl, Sp.Pl.wash_ids p _, fun h => absurd rfl h, fun n it hf => ?_⟩
    rw [Sp.Pl.wash_find, hf]
    refine ⟨_, rfl, ?_⟩
    dsimp only
    split <;> exact ⟨rfl, rfl, rfl⟩
theorem Wrote.drop {at_ base : Nat} {p p' : Sp.Pl} {d d' : Sp.Dk} {l l' : Sp.Lg} {n : Nat} {c : Nat} (h : Wrote at_ base p d l [n] c p' d' l') (i : Nat) : p'.drop n i = p.drop n i := by
  rcases h with ⟨_, rfl, rfl, rfl, rfl⟩ | ⟨_, _, rfl, rfl, rfl, rfl⟩ | ⟨_, _, rfl, rfl, rfl, rfl⟩
  · rfl
  · rfl
  · have hD : ∀ x ∈ (p.dirt [n]).map (·.1), x = n := fun x hx => by
      rw [Sp.Pl.dirt_ids] at hx
      simpa using (List.mem_filter.1 hx).1
    generalize (p.dirt [n]).map (·.1) = D at hD
    unfold Sp.Pl.drop Sp.Pl.wash
    simp only [Sp.Pl.mk.injEq, true_and, and_true]
    induction p.items with
    | nil => rfl
    | cons x xs ih =>
      rw [List.map_cons]
      by_cases hx : x.page.id = n
      · rw [List.filter_cons_of_neg (by split <;> simp [hx]), List.filter_cons_of_neg (by simp [hx])]
        exact ih
      · rw [if_neg (fun h => hx (hD _ h)), List.filter_cons_of_pos (by simpa using hx), List.filter_cons_of_pos (by simpa using hx), ih]

def DropsM (F D G R : Foot) (w : World) (gp gd gl at_ base fb cb mb : Nat) (v : Value) (s r : Nat) (ids : List Nat) (p : Sp.Pl) (d : Sp.Dk) (l : Sp.Lg) (it : Sp.It) (e : Ending) (w' : World) : Prop :=
  ∃ (c : Nat) (p2 : Sp.Pl) (d' : Sp.Dk) (l' : Sp.Lg), e = .returned (.int .i64 c) ∧ Wrote at_ base p d l [it.page.id] c p2 d' l' ∧
    ((c ≠ 0 ∧ ∃ (cs' : Array Value), Mem F D G R w' gp gd gl at_ base fb cb mb v s r cs' p.free ids p d l ∧ Turns (allF F D G) (allF F D G) w w') ∨
     (c = 0 ∧ ∃ (F' D' : Foot) (v' : Value) (cs' : Array Value), Mem F' D' G R w' gp gd gl at_ base fb cb mb v' (s + 1) r cs' (p.free ++ [it.idx]) (ids.filter (fun x => !(x == it.page.id))) (p.drop it.page.id it.idx) d' l' ∧ Turns (allF F D G) (allF F' D' G) w w'))

theorem Mem.below {F D G R : Foot} {w w' : World} {gp gd gl at_ base fb cb mb s r : Nat} {v : Value} {cs : Array Value} {fl ids : List Nat} {p : Sp.Pl} {d : Sp.Dk} {l : Sp.Lg} (h : Mem F D G R w gp gd gl at_ base fb cb mb v s r cs fl ids p d l) (hb : Below w.heap.size w w') :
    Mem F D G R w' gp gd gl at_ base fb cb mb v s r cs fl ids p d l :=
  ⟨h.pl.keep hb.size (fun b hF => hb.block b (h.pl.lt b hF)), h.dk.below hb, h.lg.below hb, h.FD, h.FG, h.DG⟩
theorem Mem.lt {F D G R : Foot} {w : World} {gp gd gl at_ base fb cb mb s r : Nat} {v : Value} {cs : Array Value} {fl ids : List Nat} {p : Sp.Pl} {d : Sp.Dk} {l : Sp.Lg} (h : Mem F D G R w gp gd gl at_ base fb cb mb v s r cs fl ids p d l) : ∀ b, allF F D G b → b < w.heap.size := fun b hb => by
  rcases hb with h1 | h1 | h1
  · exact h.pl.lt b h1
  · exact h.dk.in_ b h1
  · exact h.lg.in_ b h1

theorem drops_mem {F D G R : Foot} {w : World} {gp gd gl at_ base fb cb mb s r : Nat} {v : Value} {cs : Array Value} {ids : List Nat} {p : Sp.Pl} {d : Sp.Dk} {l : Sp.Lg} (h : Mem F D G R w gp gd gl at_ base fb cb mb v s r cs p.free ids p d l) (ok : DkLg at_ base d l)
    {it : Sp.It} (hit : it ∈ p.items) (hins : Sp.inside d.sure.length at_ base it.page.id) :
    Calls Tryz.prog 67 #[ptr gp, u32v it.page.id] w (DropsM F D G R w gp gd gl at_ base fb cb mb v s r ids p d l it) := by
  have hid : it.page.id < 4294967296 := (h.pl.wf.pg it hit).1.2.2.1
  have hf := Sp.Pl.find_of h.pl.wf hit
  refine (pool_drops (H := allF F D G) h.pl hid hf h.lt
    (fun p2 H' w2 => ∃ (D' : Foot) (d' : Sp.Dk) (l' : Sp.Lg), H' = allF F D' G ∧ Wrote at_ base p d l [it.page.id] 0 p2 d' l' ∧ IsDk D' w2 gd d' ∧ IsLg G w2 gl gd l' ∧ (∀ b, F b → ¬ D' b) ∧ (∀ b, D' b → ¬ G b))
    (fun c w' => ∃ (cs' : Array Value) (p2 : Sp.Pl) (d' : Sp.Dk) (l' : Sp.Lg), Wrote at_ base p d l [it.page.id] c p2 d' l' ∧ Mem F D G R w' gp gd gl at_ base fb cb mb v s r cs' p.free ids p d l ∧ Turns (allF F D G) (allF F D G) w w')
    (fun W gx hb hgx hX => ?_)).mono ?_
  · have hM := h.below hb
    have hnx : ¬ allF F D G gx := fun e => by have := h.lt gx e; omega
    have h1 := pool_writes (ql := [it.page.id]) (cap := 1) hM ok hX hnx (by simp) (fun j hj => by
      have : j = 0 := by simpa using hj
      subst this; rfl) (fun n hn => by
      rw [List.mem_singleton.1 hn]
      exact ⟨hid, hins, it, hf⟩) (by simp) (by rw [sorted_one]; have := Sp.Pl.dirt_len p [it.page.id]; simp at this ⊢; omega)
    rw [sorted_one] at h1
    refine h1.mono ?_
    rintro e w' ⟨c, D', cs', p', d', l', rfl, hWr, hDD, hM', ht⟩
    obtain ⟨k1, k2, k3, k4, k5⟩ := hWr.keep
    by_cases hc : c = 0
    · subst hc
      obtain ⟨it2, hf2, hi2, _, _⟩ := k5 _ _ hf
      exact .inr ⟨rfl, allF F D' G, p', it2, cs', hM'.pl, hf2, hi2, k1, ht, fun b hb => .inl hb, D', d', l', rfl, hWr, hM'.dk, hM'.lg, hM'.FD, hM'.DG⟩
    · obtain ⟨e1, e2, e3⟩ := k4 hc
      have hDe := hDD hc
      subst hDe
      rw [e1, e2, e3] at hM'
      refine .inl ⟨c, hc, rfl, cs', p', d', l', hWr, hM', ⟨ht.os.trans hb.os, ht.tape.trans hb.tape, ht.output.trans hb.output, Nat.le_trans hb.size ht.size, fun b hb1 hn => ?_, fun b hb1 => ?_⟩⟩
      · have := hb.size
        rw [ht.block b (by omega) (fun e => e.elim hn (fun e => by omega))]
        exact hb.block b hb1
      · rcases ht.foot b (.inl hb1) with (e | e) | e
        · exact .inl e
        · exact .inr (by omega)
        · exact .inr (Nat.le_trans hb.size e)
  · rintro e w' (⟨c, hc, rfl, cs', p2, d', l', hWr, hM', ht⟩ | ⟨rfl, H', p2, it2, w2, F', v', cs', hf2, ⟨D', d', l', rfl, hWr, hD', hG', hFD', hDG'⟩, ht, _, hpl, ht2⟩)
    · exact ⟨c, p2, d', l', rfl, hWr, .inl ⟨hc, cs', hM', ht⟩⟩
    · obtain ⟨k1, k2, k3, k4, k5⟩ := hWr.keep
      obtain ⟨it3, hf3, hi3, _, _⟩ := k5 _ _ hf
      rw [hf2] at hf3
      injection hf3 with hf3
      subst hf3
      rw [hi3, k1, hWr.drop] at hpl
      have hF'n : ∀ b, F' b → F b ∨ w2.heap.size ≤ b := ht2.foot
      refine ⟨0, p2, d', l', rfl, hWr, .inr ⟨rfl, F', D', v', cs', ⟨hpl, hD'.keep (fun b hb => ht2.block b (hD'.in_ b hb) (fun e => hFD' b e hb)), hG'.keep (fun b hb => ht2.block b (hG'.in_ b hb) (fun e => h.FG b e hb)), fun b h1 h2 => ?_, fun b h1 h2 => ?_, hDG'⟩, ?_⟩⟩
      · rcases hF'n b h1 with e | e
        · exact hFD' b e h2
        · have := hD'.in_ b h2; omega
      · rcases hF'n b h1 with e | e
        · exact h.FG b e h2
        · have := hG'.in_ b h2; omega
      · refine ⟨ht2.os.trans ht.os, ht2.tape.trans ht.tape, ht2.output.trans ht.output, Nat.le_trans ht.size ht2.size, fun b hb hn => ?_, fun b hb => ?_⟩
        · have := ht.size
          rw [ht2.block b (by omega) (fun e => hn (.inl e))]
          exact ht.block b hb hn
        · rcases hb with hb | hb | hb
          · rcases hF'n b hb with e | e
            · exact .inl (.inl e)
            · exact .inr (Nat.le_trans ht.size e)
          · exact ht.foot b (.inr (.inl hb))
          · exact .inl (.inr (.inr hb))

/-- What take leaves, where it finds a frame. -/
def TookS (at_ base : Nat) (p : Sp.Pl) (d : Sp.Dk) (l : Sp.Lg) (ids : List Nat) (p' : Sp.Pl) (ids' : List Nat) (d' : Sp.Dk) (l' : Sp.Lg) : Prop :=
  (p.free ≠ [] ∧ p' = p ∧ ids' = ids ∧ d' = d ∧ l' = l) ∨
  (p.free = [] ∧ ∃ pre it post p2, ids = pre ++ it.page.id :: post ∧ (∀ n ∈ pre, ∃ y, p.find n = some y ∧ 0 < y.pins) ∧ p.find it.page.id = some it ∧ it.pins = 0 ∧ Wrote at_ base p d l [it.page.id] 0 p2 d' l' ∧ p' = p.drop it.page.id it.idx ∧ ids' = ids.filter (fun x => !(x == it.page.id)))
/-- Where it finds none. -/
def TookE (at_ base : Nat) (p : Sp.Pl) (d : Sp.Dk) (l : Sp.Lg) (ids : List Nat) (c : Nat) : Prop :=
  p.free = [] ∧ ((c = 4 ∧ ∀ n ∈ ids, ∃ it, p.find n = some it ∧ 0 < it.pins) ∨
    ∃ pre it post p2 d' l', ids = pre ++ it.page.id :: post ∧ (∀ n ∈ pre, ∃ y, p.find n = some y ∧ 0 < y.pins) ∧ p.find it.page.id = some it ∧ it.pins = 0 ∧ c ≠ 0 ∧ Wrote at_ base p d l [it.page.id] c p2 d' l')
def ZM (G : Foot) (gd gl at_ base : Nat) (p : Sp.Pl) (d : Sp.Dk) (l : Sp.Lg) (ids : List Nat) : Nat → Sp.Pl → List Nat → Foot → Foot → World → Prop := fun _ p' ids' F' H' w' =>
  ∃ (D' : Foot) (d' : Sp.Dk) (l' : Sp.Lg), H' = allF F' D' G ∧ IsDk D' w' gd d' ∧ IsLg G w' gl gd l' ∧ (∀ b, F' b → ¬ D' b) ∧ (∀ b, F' b → ¬ G b) ∧ (∀ b, D' b → ¬ G b) ∧ TookS at_ base p d l ids p' ids' d' l'
def Z4M (F D G R : Foot) (w : World) (gp gd gl at_ base fb cb mb : Nat) (v : Value) (s r : Nat) (ids : List Nat) (p : Sp.Pl) (d : Sp.Dk) (l : Sp.Lg) : Nat → World → Prop := fun c w' =>
  TookE at_ base p d l ids c ∧ ∃ (cs' : Array Value), Mem F D G R w' gp gd gl at_ base fb cb mb v s r cs' p.free ids p d l ∧ Turns (allF F D G) (allF F D G) w w'

theorem take_mem {F D G R : Foot} {w : World} {gp gd gl at_ base fb cb mb s r : Nat} {v : Value} {cs : Array Value} {ids : List Nat} {p : Sp.Pl} {d : Sp.Dk} {l : Sp.Lg} (h : Mem F D G R w gp gd gl at_ base fb cb mb v s r cs p.free ids p d l) (ok : DkLg at_ base d l)
    (hids : ids = p.items.map (·.page.id)) (hins : ∀ it ∈ p.items, Sp.inside d.sure.length at_ base it.page.id) {id : Nat} (hf : p.find id = none) (W : World) (hb : Below w.heap.size w W) :
    Calls Tryz.prog 105 #[ptr gp] W (TookPost (ZM G gd gl at_ base p d l ids) (Z4M F D G R w gp gd gl at_ base fb cb mb v s r ids p d l) (allF F D G) R W gp gd gl at_ base fb cb mb id) := by
  have hW := h.below hb
  have hlen : ids.length ≤ 64 := by
    have := h.pl.wf.len; have := h.pl.wf.n64
    rw [hids, List.length_map]; omega
  have hids32 : ∀ it ∈ p.items, it.page.id < 4294967296 := fun it hit => (h.pl.wf.pg it hit).1.2.2.1
  cases hfr : p.free with
  | cons i rest =>
    refine (pool_take_free hW.pl hfr).mono ?_
    rintro e w' ⟨rfl, F', v', s', r', cs', h', ht⟩
    have hn : ∀ b, F' b → F b ∨ W.heap.size ≤ b := ht.foot
    refine .inr ⟨i, p, F', allF F' D G, v', s', r', cs', ids, rest, rfl, h', hfr, hf, ?_, fun _ h => .inl h, D, d, l, rfl, hW.dk.keep (fun b hb => ht.block b (hW.dk.in_ b hb) (fun e => h.FD b e hb)), hW.lg.keep (fun b hb => ht.block b (hW.lg.in_ b hb) (fun e => h.FG b e hb)), fun b h1 h2 => ?_, fun b h1 h2 => ?_, h.DG, .inl ⟨by simp [hfr], rfl, rfl, rfl, rfl⟩⟩
    · refine ht.wider (fun b hb => .inl hb) (fun b hb => ?_)
      rcases hb with hb | hb
      · exact .inr hb
      · exact .inl (.inr hb)
    · rcases hn b h1 with e | e
      · exact h.FD b e h2
      · have := hW.dk.in_ b h2; omega
    · rcases hn b h1 with e | e
      · exact h.FG b e h2
      · have := hW.lg.in_ b h2; omega
  | nil =>
    have hin : ∀ n ∈ ids, n < 4294967296 ∧ ∃ it, p.find n = some it := fun n hn => by
      rw [hids] at hn
      obtain ⟨it, hit, rfl⟩ := List.mem_map.1 hn
      exact ⟨hids32 it hit, it, Sp.Pl.find_of h.pl.wf hit⟩
    have hfold : ∀ W1, Turns noFoot noFoot W W1 → Below W.heap.size W W1 := fun W1 ht => ht.below_none
    refine (pool_take_scan hW.pl hfr hin hlen
      (fun it F' W1 w1 => ∃ (D' : Foot) (p2 : Sp.Pl) (d' : Sp.Dk) (l' : Sp.Lg), Wrote at_ base p d l [it.page.id] 0 p2 d' l' ∧ IsDk D' w1 gd d' ∧ IsLg G w1 gl gd l' ∧ (∀ b, F' b → ¬ D' b) ∧ (∀ b, F' b → ¬ G b) ∧ (∀ b, D' b → ¬ G b) ∧ Turns (allF F D G) (allF F' D' G) W1 w1)
      (fun c it W1 w1 => ∃ (cs' : Array Value) (p2 : Sp.Pl) (d' : Sp.Dk) (l' : Sp.Lg), Wrote at_ base p d l [it.page.id] c p2 d' l' ∧ Mem F D G R w1 gp gd gl at_ base fb cb mb v s r cs' p.free ids p d l ∧ Turns (allF F D G) (allF F D G) W1 w1)
      (fun it hit hp W1 h1 ht1 => ?_)).mono ?_
    · have hM1 := hW.below (hfold W1 ht1)
      refine (drops_mem hM1 ok hit (hins it hit)).mono ?_
      rintro e w' ⟨c, p2, d', l', rfl, hWr, ⟨hc, cs', hM', ht⟩ | ⟨rfl, F', D', v', cs', hM', ht⟩⟩
      · exact .inl ⟨c, hc, rfl, cs', p2, d', l', hWr, hM', ht⟩
      · exact .inr ⟨rfl, F', v', _, _, cs', hM'.pl, D', p2, d', l', hWr, hM'.dk, hM'.lg, hM'.FD, hM'.FG, hM'.DG, ht⟩
    · have hbz := hb.size
      rintro e w' (⟨rfl, hall, ht⟩ | ⟨pre, it, post, hsp, hpre, hfi, hp0, c, hc, rfl, W1, ht1, cs', p2, d', l', hWr, hM', ht⟩ | ⟨pre, it, post, hsp, hpre, hfi, hp0, rfl, W1, w1, F', v', s', r', cs', ht1, ⟨D', p2, d', l', hWr, hD', hG', hFD', hFG', hDG', ht⟩, h', ht2⟩)
      · refine .inl ⟨4, by decide, rfl, ⟨⟨hfr, .inl ⟨rfl, hall⟩⟩, cs, hW.below (hfold _ ht), (Turns.of_below hb _).trans (Turns.of_below (hfold _ ht) _)⟩, ht.wider (fun _ h => h.elim) (fun b hb => .inl hb)⟩
      · refine .inl ⟨c, hc, rfl, ⟨⟨hfr, .inr ⟨pre, it, post, p2, d', l', hsp, hpre, hfi, hp0, hc, hWr⟩⟩, cs', hM', (Turns.of_below hb _).trans ((Turns.of_below (hfold _ ht1) _).trans ht)⟩, ?_⟩
        have hx := (Turns.of_below (hfold _ ht1) (allF F D G)).trans ht
        exact ⟨hx.os, hx.tape, hx.output, hx.size, hx.block, fun b hb => .inl hb⟩
      · have hcb := h'.foot.2.2.1
        have htt := (Turns.of_below (hfold _ ht1) (allF F D G)).trans ht
        have hcbn : ∀ b, D' b ∨ G b → b ≠ cb := fun b hb e => by
          subst e
          rcases hb with hb | hb
          · exact hFD' b hcb hb
          · exact hFG' b hcb hb
        refine .inr ⟨it.idx, p.drop it.page.id it.idx, F', allF F' D' G, v', s', r', cs', _, [], rfl, h', ?_, ?_, ?_, fun _ h => .inl h, D', d', l', rfl, hD'.keep (fun b hb => ht2.block b (hD'.in_ b hb) (hcbn b (.inl hb))), hG'.keep (fun b hb => ht2.block b (hG'.in_ b hb) (hcbn b (.inr hb))), hFD', hFG', hDG', .inr ⟨hfr, pre, it, post, p2, hsp, hpre, hfi, hp0, hWr, rfl, rfl⟩⟩
        · simp [Sp.Pl.drop, hfr]
        · rw [Sp.Pl.find_none] at hf ⊢
          exact fun y hy => hf y (List.mem_filter.1 hy).1
        · refine ⟨ht2.os.trans htt.os, ht2.tape.trans htt.tape, ht2.output.trans htt.output, Nat.le_trans htt.size ht2.size, fun b hb hn => ?_, htt.foot⟩
          have hz := htt.size
          rw [ht2.block b (by omega) (fun e => by
            have e : b = cb := e
            rcases htt.foot cb (.inl hcb) with h | h
            · exact hn (e ▸ h)
            · omega)]
          exact htt.block b hb hn
end Go.Proofs.YtndglfiepeefdaaGreat

/- A pool's rows as a plain list of (page, how often pinned); the blocks that are kept. No law's function is named here. -/
namespace Go.Proofs.YtndglfiepeefdaaGreat
open Go.RowKit

namespace Sp
/-- the plain list. -/
def Pl.abs (p : Pl) : List (Nat × Nat) := p.items.map fun it => (it.page.id, it.pins)
def aHas (L : List (Nat × Nat)) (k : Nat) : Bool := L.any fun x => x.1 == k
/-- one more pin: it stands last. -/
def aUp (L : List (Nat × Nat)) (k : Nat) : List (Nat × Nat) := L.filter (fun x => x.1 != k) ++ (L.filter (fun x => x.1 == k)).map fun x => (x.1, x.2 + 1)
/-- the first that is not pinned goes. -/
def aDrop : List (Nat × Nat) → Option (List (Nat × Nat))
  | [] => none
  | x :: L => if x.2 = 0 then some L else (aDrop L).map (x :: ·)
/-- Pin: none: there is no room. -/
def aPin (n : Nat) (L : List (Nat × Nat)) (k : Nat) : Option (List (Nat × Nat)) :=
  if aHas L k then some (aUp L k) else if L.length < n then some (L ++ [(k, 1)]) else (aDrop L).map (· ++ [(k, 1)])
def aUnpin (L : List (Nat × Nat)) (k : Nat) : List (Nat × Nat) := L.map fun x => if x.1 = k then (x.1, x.2 - 1) else x

theorem aHas_iff {p : Pl} {k : Nat} : aHas p.abs k = true ↔ (p.find k).isSome := by
  unfold aHas Pl.abs Pl.find
  rw [List.any_map, List.find?_isSome, List.any_eq_true]
  rfl

theorem abs_last {p : Pl} (k : Nat) : ((p.pinUp k).last k).abs = aUp p.abs k := by
  unfold Pl.last Pl.pinUp Pl.upd Pl.abs aUp
  simp only [List.map_append, List.filter_map, List.map_map]
  congr 1
  · have e : ((fun x : It => x.page.id != k) ∘ fun x => if x.page.id = k then { x with pins := x.pins + 1 } else x) = ((fun x : Nat × Nat => x.1 != k) ∘ fun it : It => (it.page.id, it.pins)) := by
      funext x
      simp only [Function.comp]
      split <;> simp_all
    rw [e]
    apply List.map_congr_left
    intro x hx
    have hne : x.page.id ≠ k := by simpa using (List.mem_filter.1 hx).2
    simp [Function.comp, hne]
  · have e : ((fun x : It => x.page.id == k) ∘ fun x => if x.page.id = k then { x with pins := x.pins + 1 } else x) = ((fun x : Nat × Nat => x.1 == k) ∘ fun it : It => (it.page.id, it.pins)) := by
      funext x
      simp only [Function.comp]
      split <;> simp_all
    rw [e]
    apply List.map_congr_left
    intro x hx
    have he : x.page.id = k := by simpa using (List.mem_filter.1 hx).2
    simp [Function.comp, he]
theorem abs_bring {p : Pl} {x : Pg} {i : Nat} {rest : List Nat} (hn : p.find x.id = none) : ((p.bring x i rest).pinUp x.id).abs = p.abs ++ [(x.id, 1)] := by
  have hn' := Pl.find_none.1 hn
  unfold Pl.bring Pl.pinUp Pl.upd Pl.abs
  simp only [List.map_append, List.map_map, List.map_cons, List.map_nil]
  congr 1
  · apply List.map_congr_left
    intro y hy
    simp [Function.comp, hn' y hy]
theorem abs_unpin {p : Pl} (k : Nat) : (p.upd k fun x => { x with pins := x.pins - 1 }).abs = aUnpin p.abs k := by
  unfold Pl.upd Pl.abs aUnpin
  simp only [List.map_map]
  apply List.map_congr_left
  intro x _
  simp only [Function.comp]
  split <;> rfl
theorem aDrop_split : ∀ (pre : List (Nat × Nat)) (x : Nat × Nat) (post : List (Nat × Nat)), (∀ y ∈ pre, 0 < y.2) → x.2 = 0 → aDrop (pre ++ x :: post) = some (pre ++ post)
  | [], x, post, _, h => by simp [aDrop, h]
  | y :: pre, x, post, hp, h => by
    have hy := hp y (List.mem_cons_self)
    have ih := aDrop_split pre x post (fun z hz => hp z (List.mem_cons_of_mem _ hz)) h
    simp only [List.cons_append, aDrop]
    rw [if_neg (by omega), ih]; rfl
theorem aDrop_none : ∀ (L : List (Nat × Nat)), (∀ y ∈ L, 0 < y.2) → aDrop L = none
  | [], _ => rfl
  | y :: L, h => by
    have hy := h y (List.mem_cons_self)
    simp only [aDrop]
    rw [if_neg (by omega), aDrop_none L (fun z hz => h z (List.mem_cons_of_mem _ hz))]; rfl
theorem abs_drop {p : Pl} (h : p.wf) {pre post : List It} {it : It} (e : p.items = pre ++ it :: post) : (p.drop it.page.id it.idx).abs = (pre ++ post).map fun it => (it.page.id, it.pins) := by
  have hn := h.ids
  rw [e, List.map_append, List.map_cons, List.nodup_append] at hn
  obtain ⟨_, h2, h3⟩ := hn
  rw [List.nodup_cons] at h2
  unfold Pl.drop Pl.abs
  simp only [e, List.filter_append]
  rw [List.filter_cons_of_neg (by simp)]
  congr 2
  · rw [List.filter_eq_self]
    intro y hy
    have := h3 _ (List.mem_map.2 ⟨y, hy, rfl⟩) it.page.id (List.mem_cons_self)
    simpa using this
  · rw [List.filter_eq_self]
    intro y hy
    have : y.page.id ≠ it.page.id := fun e => h2.1 (List.mem_map.2 ⟨y, hy, e⟩)
    simpa using this
end Sp

/-- The blocks of K are kept. -/
structure Kept (K : Foot) (w w' : World) : Prop where
  os : w'.os = w.os
  tape : w'.tape = w.tape
  output : w'.output = w.output
  size : w.heap.size ≤ w'.heap.size
  block : ∀ b, K b → w'.heap[b]? = w.heap[b]?
theorem Kept.refl (K : Foot) (w : World) : Kept K w w := ⟨rfl, rfl, rfl, Nat.le_refl _, fun _ _ => rfl⟩
theorem Kept.trans {K : Foot} {w w' w'' : World} (h : Kept K w w') (h' : Kept K w' w'') : Kept K w w'' :=
  ⟨h'.os.trans h.os, h'.tape.trans h.tape, h'.output.trans h.output, Nat.le_trans h.size h'.size, fun b hb => (h'.block b hb).trans (h.block b hb)⟩
theorem Kept.mono {K K' : Foot} {w w' : World} (h : Kept K w w') (hk : ∀ b, K' b → K b) : Kept K' w w' := ⟨h.os, h.tape, h.output, h.size, fun b hb => h.block b (hk b hb)⟩
theorem Kept.below {K : Foot} {w w' : World} (h : Kept K w w') {B : Nat} (hk : ∀ b, b < B → K b) : Below B w w' := ⟨h.os, h.tape, h.output, h.size, fun b hb => h.block b (hk b hb)⟩
theorem Kept.of_below {K : Foot} {w w' : World} {B : Nat} (h : Below B w w') (hk : ∀ b, K b → b < B) : Kept K w w' := ⟨h.os, h.tape, h.output, h.size, fun b hb => h.block b (hk b hb)⟩
theorem Kept.of_turns {K F F' : Foot} {w w' : World} (h : Turns F F' w w') (hk : ∀ b, K b → b < w.heap.size ∧ ¬ F b) : Kept K w w' := ⟨h.os, h.tape, h.output, h.size, fun b hb => h.block b (hk b hb).1 (hk b hb).2⟩
theorem Blk.kept {K : Foot} {w w' : World} {g : Nat} {t : TypeId} {cs : Array Value} (h : Blk w g t cs) (hk : Kept K w w') (hg : K g) : Blk w' g t cs := (hk.block g hg).trans h
end Go.Proofs.YtndglfiepeefdaaGreat

/- A pool in memory on a disk laid out in whatever way, which has given pages from 1 on; what its calls do to the plain list. -/
namespace Go.Proofs.YtndglfiepeefdaaGreat
open Go.RowKit

/-- How a disk is laid out: where the area of the twin is, where the homes, the last page, how many sectors. -/
structure Ly where
  at_ : Nat
  base : Nat
  top : Nat
  len : Nat
  fits : base + top * 4 + 4 ≤ len
  small : top < 1000

/-- Pages 1 to top are pages. -/
def PgOkT (ly : Ly) (pg : Nat → Sp.Pg) : Prop := ∀ q, 1 ≤ q → q ≤ ly.top → (pg q).wf ∧ (pg q).may ∧ (pg q).id = q
/-- A disk that has them. -/
structure DkT (ly : Ly) (pg : Nat → Sp.Pg) (dk : Sp.Dk) : Prop where
  len : dk.sure.length = ly.len
  loose : dk.loose = []
  fuse : dk.fuse = -1
  page : ∀ q, 1 ≤ q → q ≤ ly.top → Sp.pageAt dk.sure (ly.base + q * 4) = pgBytes (pg q)
def Sp.Pl.ofT (ly : Ly) (pg : Nat → Sp.Pg) (p : Sp.Pl) : Prop := ∀ it ∈ p.items, it.dirty = false ∧ it.page = pg it.page.id ∧ 1 ≤ it.page.id ∧ it.page.id ≤ ly.top

/-- A pool (block gp), its disk (block gd); the blocks of K are none of theirs. -/
def DgAt (ly : Ly) (pg : Nat → Sp.Pg) (K : Foot) (w : World) (gd gl gp n : Nat) (L : List (Nat × Nat)) : Prop :=
  PgOkT ly pg ∧ ∃ (p : Sp.Pl) (D F : Foot) (dk : Sp.Dk), IsDk D w gd dk ∧ DkT ly pg dk ∧ IsPl F w gp gd gl ly.at_ ly.base p ∧ p.n = n ∧ p.ofT ly pg ∧ p.abs = L ∧ (∀ b, D b → ¬ F b) ∧ (∀ b, D b ∨ F b → ¬ K b) ∧ (∀ b, K b → b < w.heap.size)

/-- The block of a page's rows, if it has any. -/
def rowK (A : Option Addr) (n : Nat) : Foot := fun b => 0 < n ∧ ∃ o, A = some ⟨b, o, none⟩
theorem rowK_of {G : Foot} {w : World} {A : Option Addr} {rows : List Sp.Bs} (h : RowsAt G w A rows) {b : Nat} (hb : rowK A rows.length b) : G b ∧ b < w.heap.size := by
  obtain ⟨hn, o, e⟩ := hb
  obtain ⟨b', o', e', hg, hl, _⟩ := h.2 hn
  rw [e'] at e
  injection e with e
  injection e with e1
  subst e1
  exact ⟨hg, hl⟩
theorem rowK_at {G : Foot} {w : World} {A : Option Addr} {rows : List Sp.Bs} (h : RowsAt G w A rows) : RowsAt (fun b => G b ∧ rowK A rows.length b) w A rows :=
  ⟨h.1, fun hn => by
    obtain ⟨b, o, e, hg, hl, hc⟩ := h.2 hn
    exact ⟨b, o, e, ⟨hg, hn, o, e⟩, hl, hc⟩⟩
theorem dg_make' {ly : Ly} {pg : Nat → Sp.Pg} {K K' : Foot} {w w' : World} {gd gl gp n : Nat} {p' : Sp.Pl} {D F F' : Foot} {dk : Sp.Dk} (hok : PgOkT ly pg) (hd : IsDk D w gd dk) (hlk : DkT ly pg dk) (hpl : IsPl F' w' gp gd gl ly.at_ ly.base p') (hn : p'.n = n) (hfr : p'.ofT ly pg) (hDF : ∀ b, D b → ¬ F b) (hK : ∀ b, D b ∨ F b → ¬ K b)
    (hb : ∀ b, K b → b < w.heap.size) (ht : Turns F F' w w') (hK' : ∀ b, K' b → K b ∨ (w.heap.size ≤ b ∧ b < w'.heap.size ∧ ¬ F' b)) : DgAt ly pg K' w' gd gl gp n p'.abs := by
  have hin := hd.in_
  refine ⟨hok, p', D, F', dk, hd.keep (fun b hD => ht.block b (hin b hD) (hDF b hD)), hlk, hpl, hn, hfr, rfl, fun b hD hF => ?_, fun b h hk => ?_, fun b h => ?_⟩
  · rcases ht.foot b hF with h | h
    · exact hDF b hD h
    · have := hin b hD; omega
  · rcases hK' b hk with hk | ⟨h1, h2, h3⟩
    · rcases h with h | h
      · exact hK b (.inl h) hk
      · rcases ht.foot b h with h | h
        · exact hK b (.inr h) hk
        · have := hb b hk; omega
    · rcases h with h | h
      · have := hin b h; omega
      · exact h3 h
  · rcases hK' b h with h | h
    · exact Nat.lt_of_lt_of_le (hb b h) ht.size
    · exact h.2.1
theorem dg_make {ly : Ly} {pg : Nat → Sp.Pg} {K : Foot} {w w' : World} {gd gl gp n : Nat} {p' : Sp.Pl} {D F F' : Foot} {dk : Sp.Dk} (hok : PgOkT ly pg) (hd : IsDk D w gd dk) (hlk : DkT ly pg dk) (hpl : IsPl F' w' gp gd gl ly.at_ ly.base p') (hn : p'.n = n) (hfr : p'.ofT ly pg) (hDF : ∀ b, D b → ¬ F b) (hK : ∀ b, D b ∨ F b → ¬ K b)
    (hb : ∀ b, K b → b < w.heap.size) (ht : Turns F F' w w') : DgAt ly pg K w' gd gl gp n p'.abs := by
  have hin := hd.in_
  refine ⟨hok, p', D, F', dk, hd.keep (fun b hD => ht.block b (hin b hD) (hDF b hD)), hlk, hpl, hn, hfr, rfl, fun b hD hF => ?_, fun b h hk => ?_, fun b h => Nat.lt_of_lt_of_le (hb b h) ht.size⟩
  · rcases ht.foot b hF with h | h
    · exact hDF b hD h
    · have := hin b hD; omega
  · rcases h with h | h
    · exact hK b (.inl h) hk
    · rcases ht.foot b h with h | h
      · exact hK b (.inr h) hk
      · have := hb b hk; omega

theorem dg_len {ly : Ly} {pg : Nat → Sp.Pg} {K : Foot} {w : World} {gd gl gp n : Nat} {L : List (Nat × Nat)} (h : DgAt ly pg K w gd gl gp n L) : L.length ≤ n ∧ (L.map (·.1)).Nodup ∧ ∀ x ∈ L, 1 ≤ x.1 ∧ x.1 ≤ ly.top := by
  obtain ⟨hok, p, D, F, dk, hd, hlk, hpl, rfl, hfr, rfl, hDF, hb0⟩ := h
  have hl := hpl.wf.len
  have hids := hpl.wf.ids
  refine ⟨by simp [Sp.Pl.abs]; omega, ?_, fun x hx => ?_⟩
  · have e1 : p.abs.map (·.1) = p.items.map (·.page.id) := by simp [Sp.Pl.abs, Function.comp]
    rw [e1]; exact hids
  · obtain ⟨it, hit, rfl⟩ := List.mem_map.1 hx
    exact ⟨(hfr it hit).2.2.1, (hfr it hit).2.2.2⟩

/-- The blocks made meanwhile are none of theirs. -/
theorem DgAt.more {ly : Ly} {pg : Nat → Sp.Pg} {K K' : Foot} {w w' : World} {gd gl gp n : Nat} {L : List (Nat × Nat)} (h : DgAt ly pg K w gd gl gp n L) (hb : Below w.heap.size w w') (hK : ∀ b, K' b → K b ∨ (w.heap.size ≤ b ∧ b < w'.heap.size)) : DgAt ly pg K' w' gd gl gp n L := by
  obtain ⟨hok, p, D, F, dk, hd, hlk, hpl, hn, hfr, hL, hDF, hb0, hKl⟩ := h
  have hin := hd.in_
  have hlt := hpl.lt
  refine ⟨hok, p, D, F, dk, hd.below hb, hlk, hpl.below hb, hn, hfr, hL, hDF, fun b h hk => ?_, fun b hk => ?_⟩
  · rcases hK b hk with h' | h'
    · exact hb0 b h h'
    · rcases h with h | h
      · have := hin b h; omega
      · have := hlt b h; omega
  · rcases hK b hk with h' | h'
    · exact Nat.lt_of_lt_of_le (hKl b h') hb.size
    · exact h'.2
theorem DgAt.below {ly : Ly} {pg : Nat → Sp.Pg} {K : Foot} {w w' : World} {gd gl gp n : Nat} {L : List (Nat × Nat)} (h : DgAt ly pg K w gd gl gp n L) (hb : Below w.heap.size w w') : DgAt ly pg K w' gd gl gp n L := h.more hb (fun _ h => .inl h)
theorem DgAt.lt {ly : Ly} {pg : Nat → Sp.Pg} {K : Foot} {w : World} {gd gl gp n : Nat} {L : List (Nat × Nat)} (h : DgAt ly pg K w gd gl gp n L) : ∀ b, K b → b < w.heap.size := by
  obtain ⟨_, p, D, F, dk, _, _, _, _, _, _, _, _, h⟩ := h
  exact h

/-- What Pin answers, and leaves. -/
def PinDg (ly : Ly) (pg : Nat → Sp.Pg) (K : Foot) (w : World) (gd gl gp n : Nat) (L : List (Nat × Nat)) (k : Nat) (e : Ending) (w' : World) : Prop :=
  Kept K w w' ∧ ((Sp.aPin n L k = none ∧ e = .returned (.tuple #[zeroPgV, .int .i64 4]) ∧ DgAt ly pg K w' gd gl gp n L) ∨
    ∃ L' A c, Sp.aPin n L k = some L' ∧ e = .returned (.tuple #[pgV (pg k) A c, .int .i64 0]) ∧ OkAddr A ∧ RowsAt (fun b => w.heap.size ≤ b ∧ rowK A (pg k).rows.length b) w' A (pg k).rows ∧ DgAt ly pg (fun b => K b ∨ rowK A (pg k).rows.length b) w' gd gl gp n L')

theorem dg_pin {ly : Ly} {pg : Nat → Sp.Pg} {K : Foot} {w : World} {gd gl gp n : Nat} {L : List (Nat × Nat)} (h : DgAt ly pg K w gd gl gp n L) {k : Nat} (h1 : 1 ≤ k) (hT : k ≤ ly.top) (hs : ∀ x ∈ L, x.2 < 1000000) :
    Calls Tryz.prog 11 #[ptr gp, u32v k] w (PinDg ly pg K w gd gl gp n L k) := by
  obtain ⟨hok, p, D, F, dk, hd, hlk, hpl, rfl, hfr, rfl, hDF, hb0, hKl⟩ := h
  have hwf := hpl.wf
  cases hf : p.find k with
  | some it =>
    obtain ⟨hit, hk⟩ := Sp.Pl.find_mem hf
    have hpg : it.page = pg k := by rw [← hk]; exact (hfr it hit).2.1
    have hsm := hs (it.page.id, it.pins) (List.mem_map.2 ⟨it, hit, rfl⟩)
    have hsm : it.pins < 1000000 := hsm
    refine (pool_pin_in' hpl (by have := ly.small; omega) hf (by omega)).mono ?_
    rintro e w' ⟨F', A, c, rfl, hA, hR, h', ht⟩
    rw [hpg] at hR ⊢
    have hfr' : ((p.pinUp k).last k).ofT ly pg := fun y hy => by
      have hy' := (Sp.Pl.last_perm (p.pinUp k) k).mem_iff.1 hy
      obtain ⟨x, hx, rfl⟩ := Sp.Pl.upd_mem hy'
      split <;> exact hfr x hx
    refine ⟨Kept.of_turns ht (fun b hk => ⟨hKl b hk, fun hF => hb0 b (.inr hF) hk⟩), .inr ⟨Sp.aUp p.abs k, A, c, ?_, rfl, hA, (rowK_at hR).mono (fun b hb => ⟨hb.1.1, hb.2⟩), ?_⟩⟩
    · unfold Sp.aPin
      rw [if_pos (Sp.aHas_iff.2 (by rw [hf]; rfl))]
    · rw [← Sp.abs_last]
      exact dg_make' hok hd hlk h' rfl hfr' hDF hb0 hKl ht (fun b hb => hb.imp id (fun hb => by
        obtain ⟨h1, h2⟩ := rowK_of hR hb
        exact ⟨h1.1, h2, h1.2⟩))
  | none =>
    have hno : Sp.aHas p.abs k = false := by
      cases ha : Sp.aHas p.abs k with
      | false => rfl
      | true => rw [Sp.aHas_iff, hf] at ha; cases ha
    have hid : (pg k).id = k := (hok k h1 hT).2.2
    have hlen : p.abs.length = p.items.length := by simp [Sp.Pl.abs]
    have hwl := hwf.len
    have HC := pool_pin_out' (x := pg k) hpl (fun it hit => (hfr it hit).1) ⟨(hok k h1 hT).1, (hok k h1 hT).2.1⟩ (by rw [hid]; exact hf) hd (by rw [hlk.fuse]; decide) hlk.loose (by rw [hlk.len, hid]; have := ly.fits; omega) (by rw [hid]; exact hlk.page k h1 hT)
    rw [hid] at HC
    refine HC.mono ?_
    rintro e w' (⟨rfl, hfree, hall, h', ht⟩ | ⟨F', A, c, p', i, rest, rfl, hA, hR, hfree, hnone, h', ht, hp'⟩)
    · refine ⟨Kept.of_turns ht (fun b hk => ⟨hKl b hk, fun hF => hb0 b (.inr hF) hk⟩), .inl ⟨?_, rfl, dg_make hok hd hlk h' rfl hfr hDF hb0 hKl ht⟩⟩
      unfold Sp.aPin
      rw [hfree, List.length_nil] at hwl
      rw [hno, if_neg (by simp), if_neg (by omega), Sp.aDrop_none _ (fun y hy => by
        obtain ⟨it, hit, rfl⟩ := List.mem_map.1 hy
        exact hall it hit)]
      rfl
    · have hsub : ∀ y ∈ p'.items, y ∈ p.items := by
        rcases hp' with rfl | ⟨_, pre, it, post, _, _, _, rfl⟩
        · exact fun y hy => hy
        · exact fun y hy => (List.mem_filter.1 hy).1
      have hfr' : ((p'.bring (pg k) i rest).pinUp k).ofT ly pg := fun y hy => by
        obtain ⟨x, hx, rfl⟩ := Sp.Pl.upd_mem hy
        have hx' : x.dirty = false ∧ x.page = pg x.page.id ∧ 1 ≤ x.page.id ∧ x.page.id ≤ ly.top := by
          rcases List.mem_append.1 hx with hx | hx
          · exact hfr x (hsub x hx)
          · rw [List.mem_singleton.1 hx]
            exact ⟨rfl, by rw [hid], by rw [hid]; exact h1, by rw [hid]; exact hT⟩
        split <;> exact hx'
      have hpn : p'.n = p.n := by
        rcases hp' with rfl | ⟨_, pre, it, post, _, _, _, rfl⟩ <;> rfl
      have habs : Sp.aPin p.n p.abs k = some (p'.abs ++ [(k, 1)]) := by
        unfold Sp.aPin
        rw [hno, if_neg (by simp)]
        rcases hp' with rfl | ⟨hf0, pre, it, post, hsp, hpre, hp0, rfl⟩
        · rw [hfree, List.length_cons] at hwl
          rw [if_pos (by omega)]
        · rw [hf0, List.length_nil] at hwl
          rw [if_neg (by omega), Sp.abs_drop hwf hsp]
          unfold Sp.Pl.abs
          rw [hsp, List.map_append, List.map_cons, Sp.aDrop_split _ _ _ (fun y hy => by
            obtain ⟨z, hz, rfl⟩ := List.mem_map.1 hy
            exact hpre z hz) hp0, List.map_append]
          rfl
      refine ⟨Kept.of_turns ht (fun b hk => ⟨hKl b hk, fun hF => hb0 b (.inr hF) hk⟩), .inr ⟨_, A, c, habs, rfl, hA, (rowK_at hR).mono (fun b hb => ⟨hb.1.1, hb.2⟩), ?_⟩⟩
      have ha := Sp.abs_bring (x := pg k) (i := i) (rest := rest) (by rw [hid]; exact hnone)
      rw [hid] at ha
      rw [← ha]
      exact dg_make' hok hd hlk h' hpn hfr' hDF hb0 hKl ht (fun b hb => hb.imp id (fun hb => by
        obtain ⟨h1, h2⟩ := rowK_of hR hb
        exact ⟨h1.1, h2, h1.2⟩))

theorem dg_unpin {ly : Ly} {pg : Nat → Sp.Pg} {K : Foot} {w : World} {gd gl gp n : Nat} {L : List (Nat × Nat)} (h : DgAt ly pg K w gd gl gp n L) {k m : Nat} (hk : k < 4294967296) (hm : (k, m) ∈ L) (h0 : 1 ≤ m) :
    Calls Tryz.prog 17 #[ptr gp, u32v k] w fun e w' => e = .returned (.int .i64 0) ∧ Kept K w w' ∧ DgAt ly pg K w' gd gl gp n (Sp.aUnpin L k) := by
  obtain ⟨hok, p, D, F, dk, hd, hlk, hpl, rfl, hfr, rfl, hDF, hb0, hKl⟩ := h
  obtain ⟨it, hit, e⟩ := List.mem_map.1 hm
  injection e with e1 e2
  have hf := Sp.Pl.find_of hpl.wf hit
  rw [e1] at hf
  refine (pool_unpin hpl hk hf (by omega)).mono ?_
  rintro e w' ⟨rfl, h', ht⟩
  refine ⟨rfl, Kept.of_turns ht (fun b hk => ⟨hKl b hk, fun hF => hb0 b (.inr hF) hk⟩), ?_⟩
  rw [← Sp.abs_unpin]
  refine dg_make hok hd hlk h' rfl (fun y hy => ?_) hDF hb0 hKl ht
  obtain ⟨x, hx, rfl⟩ := Sp.Pl.upd_mem hy
  split <;> exact hfr x hx

/-- Where nothing is pinned a page can be pinned, and unpinned. -/
theorem Sp.aPin_zero' {n : Nat} (hn : 1 ≤ n) {L : List (Nat × Nat)} {k : Nat} (hz : ∀ x ∈ L, x.2 = 0) (hl : L.length ≤ n) :
    ∃ L', Sp.aPin n L k = some L' ∧ (k, 1) ∈ L' ∧ ∀ x ∈ Sp.aUnpin L' k, x.2 = 0 := by
  unfold Sp.aPin
  by_cases ha : Sp.aHas L k = true
  · rw [if_pos ha]
    refine ⟨_, rfl, ?_, fun x hx => ?_⟩
    · unfold Sp.aHas at ha
      obtain ⟨y, hy, e⟩ := List.any_eq_true.1 ha
      have e' : y.1 = k := by simpa using e
      refine List.mem_append.2 (.inr (List.mem_map.2 ⟨y, List.mem_filter.2 ⟨hy, e⟩, ?_⟩))
      rw [hz y hy, e']
    · obtain ⟨y, hy, rfl⟩ := List.mem_map.1 hx
      rcases List.mem_append.1 hy with h | h
      · have h0 := hz y (List.mem_filter.1 h).1
        split
        · show y.2 - 1 = 0; omega
        · exact h0
      · obtain ⟨z, hz', rfl⟩ := List.mem_map.1 h
        have h0 := hz z (List.mem_filter.1 hz').1
        have e' : z.1 = k := by simpa using (List.mem_filter.1 hz').2
        rw [if_pos e']
        show z.2 + 1 - 1 = 0; omega
  · rw [if_neg ha]
    have fin : ∀ M : List (Nat × Nat), (∀ x ∈ M, x.2 = 0) → (k, 1) ∈ M ++ [(k, 1)] ∧ ∀ x ∈ Sp.aUnpin (M ++ [(k, 1)]) k, x.2 = 0 := fun M hM => by
      refine ⟨by simp, fun x hx => ?_⟩
      obtain ⟨y, hy, rfl⟩ := List.mem_map.1 hx
      rcases List.mem_append.1 hy with h | h
      · have h0 := hM y h
        split
        · show y.2 - 1 = 0; omega
        · exact h0
      · rw [List.mem_singleton.1 h, if_pos rfl]; rfl
    by_cases hlt : L.length < n
    · rw [if_pos hlt]
      exact ⟨_, rfl, (fin L hz).1, (fin L hz).2⟩
    · rw [if_neg hlt]
      cases L with
      | nil => simp at hlt; omega
      | cons x M =>
        have e : Sp.aDrop (x :: M) = some M := by unfold Sp.aDrop; rw [if_pos (hz x (by simp))]
        rw [e]
        exact ⟨_, rfl, (fin M (fun y hy => hz y (by simp [hy]))).1, (fin M (fun y hy => hz y (by simp [hy]))).2⟩

/-- A pool of n frames on the given pages, none of them pinned. -/
def DzAt (ly : Ly) (pg : Nat → Sp.Pg) (K : Foot) (w : World) (gd gl gp n : Nat) : Prop := 1 ≤ n ∧ ∃ L, DgAt ly pg K w gd gl gp n L ∧ ∀ x ∈ L, x.2 = 0
theorem DzAt.more {ly : Ly} {pg : Nat → Sp.Pg} {K K' : Foot} {w w' : World} {gd gl gp n : Nat} (h : DzAt ly pg K w gd gl gp n) (hb : Below w.heap.size w w') (hK : ∀ b, K' b → K b ∨ (w.heap.size ≤ b ∧ b < w'.heap.size)) : DzAt ly pg K' w' gd gl gp n := by
  obtain ⟨h1, L, h, hz⟩ := h
  exact ⟨h1, L, h.more hb hK, hz⟩
theorem DzAt.below {ly : Ly} {pg : Nat → Sp.Pg} {K : Foot} {w w' : World} {gd gl gp n : Nat} (h : DzAt ly pg K w gd gl gp n) (hb : Below w.heap.size w w') : DzAt ly pg K w' gd gl gp n := h.more hb (fun _ h => .inl h)
theorem DzAt.lt {ly : Ly} {pg : Nat → Sp.Pg} {K : Foot} {w : World} {gd gl gp n : Nat} (h : DzAt ly pg K w gd gl gp n) : ∀ b, K b → b < w.heap.size := by
  obtain ⟨_, L, h, _⟩ := h
  exact h.lt
theorem DzAt.ok {ly : Ly} {pg : Nat → Sp.Pg} {K : Foot} {w : World} {gd gl gp n : Nat} (h : DzAt ly pg K w gd gl gp n) : PgOkT ly pg := by
  obtain ⟨_, L, h, _⟩ := h
  exact h.1
end Go.Proofs.YtndglfiepeefdaaGreat

/- What a pool's calls answer and leave, by definition: plain words. No program is named here. -/
namespace Go.Proofs.YtndglfiepeefdaaGreat.Sp

/-- A page that is in. -/
structure RI where
  page : Pg
  pins : Nat
  dirty : Bool
  from_ : Nat
def It.ri (it : It) : RI := ⟨it.page, it.pins, it.dirty, it.from_⟩
/-- A pool: the pages that are in, in the row's order; what the disk has; up to where the log is on the disk, where it ends; pages 1 to top have homes. -/
structure R15 where
  frames : Nat
  L : List RI
  disk : Nat → Pg
  forced : Nat
  next : Nat
  top : Nat
def hasR (L : List RI) (id : Nat) : Bool := L.any (fun x => x.page.id == id)
def getR? (L : List RI) (id : Nat) : Option RI := L.find? (fun x => x.page.id == id)
def isDirty (L : List RI) (id : Nat) : Bool := match getR? L id with
  | some x => x.dirty
  | none => false
/-- The highest LSN of the dirty ones among some pages. -/
def lsnOf (L : List RI) (ids : List Nat) : Nat := ids.foldl (fun m id => match getR? L id with
  | some x => if x.dirty then max m x.page.lsn else m
  | none => m) 0
def cleaned (ids : List Nat) (x : RI) : RI := if x.dirty = true ∧ x.page.id ∈ ids then { x with dirty := false, from_ := 0 } else x
/-- Pages that are in are written, those that are dirty. -/
def R15.write (s : R15) (ids : List Nat) : Nat × R15 :=
  if ids.all (fun id => !isDirty s.L id) = true then (0, s)
  else if s.next < lsnOf s.L ids then (2, s)
  else (0, { s with forced := if s.forced ≤ lsnOf s.L ids then s.next else s.forced, L := s.L.map (cleaned ids), disk := fun q => if q ∈ ids ∧ isDirty s.L q = true then ((getR? s.L q).map (·.page)).getD (s.disk q) else s.disk q })
def dropR (L : List RI) (id : Nat) : List RI := L.filter (fun x => x.page.id != id)
def R15.drop (s : R15) (id : Nat) : Nat × R15 :=
  let r := s.write [id]
  if r.1 ≠ 0 then r else (0, { r.2 with L := dropR r.2.L id })
/-- Room for one more. -/
def R15.room (s : R15) : Nat × R15 :=
  if s.L.length < s.frames then (0, s) else
  match s.L.find? (fun x => x.pins == 0) with
  | some x => s.drop x.page.id
  | none => (4, s)
def upR (L : List RI) (id : Nat) (f : RI → RI) : List RI := L.map fun x => if x.page.id = id then f x else x
/-- A page that is in, once more; it stands last. -/
def pinR (L : List RI) (id : Nat) : List RI := dropR L id ++ (L.filter (fun x => x.page.id == id)).map (fun x => { x with pins := x.pins + 1 })
def R15.pin (s : R15) (id : Nat) : Nat × Option Pg × R15 :=
  if hasR s.L id = true then (0, (getR? s.L id).map (·.page), { s with L := pinR s.L id })
  else if s.top < id then (2, none, s)
  else if id = 0 then (60, none, s)
  else
    let r := s.room
    if r.1 ≠ 0 then (r.1, none, r.2) else (0, some (s.disk id), { r.2 with L := pinR (r.2.L ++ [⟨s.disk id, 0, false, 0⟩]) id })
def R15.put (s : R15) (x : Pg) (may : Bool) : Nat × R15 :=
  if may = false then (2, s)
  else match getR? s.L x.id with
    | none => (3, s)
    | some y => if y.pins = 0 then (3, s) else (0, { s with L := upR s.L x.id (fun y => if y.dirty then { y with page := x } else { y with page := x, dirty := true, from_ := x.lsn }) })
def R15.unpin (s : R15) (id : Nat) : Nat × R15 :=
  match getR? s.L id with
  | none => (3, s)
  | some y => if y.pins = 0 then (3, s) else (0, { s with L := upR s.L id (fun y => { y with pins := y.pins - 1 }) })
def R15.evict (s : R15) (id : Nat) : Nat × R15 :=
  match getR? s.L id with
  | none => (3, s)
  | some y => if 0 < y.pins then (9, s) else s.drop id
end Go.Proofs.YtndglfiepeefdaaGreat.Sp

/- A pool with its disk and its log, and the plain pool that it stands for: what writes, drops and take do to it. No walk. -/
namespace Go.Proofs.YtndglfiepeefdaaGreat
open Go.RowKit Go.Conc

/-- A pool, its disk and its log stand for a plain pool. -/
structure Rep (ly : Ly) (p : Sp.Pl) (dk : Sp.Dk) (l : Sp.Lg) (s : Sp.R15) : Prop where
  wf : p.wf
  lwf : l.wf
  frames : s.frames = p.n
  L : s.L = p.items.map Sp.It.ri
  top : s.top = ly.top
  forced : s.forced = l.forced
  next : s.next = l.next
  ok : PgOkT ly s.disk
  dkt : DkT ly s.disk dk
  dl : DkLg ly.at_ ly.base dk l
  lo : l.at_ + l.n ≤ ly.at_
  area : ly.at_ + 33 ≤ ly.base
  tight : ly.len < ly.base + (ly.top + 1) * 4 + 4
  zero : Sp.pageAt dk.sure ly.base = Sp.zeros 512
  in_ : ∀ it ∈ p.items, 1 ≤ it.page.id ∧ it.page.id ≤ ly.top

theorem Rep.inside {ly : Ly} {p : Sp.Pl} {dk : Sp.Dk} {l : Sp.Lg} {s : Sp.R15} (h : Rep ly p dk l s) {n : Nat} (h1 : 1 ≤ n) (h2 : n ≤ ly.top) : Sp.inside dk.sure.length ly.at_ ly.base n := by
  have := h.dkt.len; have := ly.fits; have := h.area
  unfold Sp.inside; omega

namespace Sp
theorem getR_eq (p : Pl) (n : Nat) : getR? (p.items.map It.ri) n = (p.find n).map It.ri := by
  unfold getR? Pl.find
  rw [List.find?_map]
  rfl
theorem isDirty_eq (p : Pl) (n : Nat) : isDirty (p.items.map It.ri) n = p.isD n := by
  unfold isDirty Pl.isD
  rw [getR_eq]
  cases p.find n <;> rfl
theorem hasR_eq (p : Pl) (n : Nat) : hasR (p.items.map It.ri) n = (p.find n).isSome := by
  unfold hasR Pl.find
  rw [List.any_map, Bool.eq_iff_iff, List.any_eq_true, List.find?_isSome]
  rfl
theorem lsnOf_eq (p : Pl) (q : List Nat) : lsnOf (p.items.map It.ri) q = p.topOf q := by
  unfold lsnOf Pl.topOf
  have key : ∀ (q : List Nat) (m : Nat), q.foldl (fun m id => match getR? (p.items.map It.ri) id with
      | some x => if x.dirty then max m x.page.lsn else m
      | none => m) m = (q.filter p.isD).foldl (fun m n => max m (p.lsnAt n)) m := by
    intro q
    induction q with
    | nil => exact fun _ => rfl
    | cons n q ih =>
      intro m
      rw [List.foldl_cons, ih]
      rw [getR_eq]
      cases hf : p.find n with
      | none =>
        have e : p.isD n = false := by unfold Pl.isD; rw [hf]
        rw [List.filter_cons_of_neg (by rw [e]; decide)]
        rfl
      | some it =>
        have e : p.isD n = it.dirty := by unfold Pl.isD; rw [hf]
        cases hd : it.dirty with
        | false =>
          rw [List.filter_cons_of_neg (by rw [e, hd]; decide)]
          simp [It.ri, hd]
        | true =>
          rw [List.filter_cons_of_pos (by rw [e, hd]), List.foldl_cons]
          have e2 : p.lsnAt n = it.page.lsn := by unfold Pl.lsnAt; rw [hf]
          rw [e2]
          simp [It.ri, hd]
  exact key q 0
theorem dirt_nil_iff (p : Pl) (q : List Nat) : p.dirt q = [] ↔ q.all (fun id => !isDirty (p.items.map It.ri) id) = true := by
  rw [List.all_eq_true]
  have : p.dirt q = [] ↔ q.filter p.isD = [] := by rw [← Pl.dirt_ids, List.map_eq_nil_iff]
  rw [this, List.filter_eq_nil_iff]
  constructor
  · intro h x hx
    have := h x hx
    rw [isDirty_eq]
    simpa using this
  · intro h x hx
    have := h x hx
    rw [isDirty_eq] at this
    simpa using this
end Sp

/-- Pages written. -/
theorem Rep.wrote {ly : Ly} {p p' : Sp.Pl} {dk dk' : Sp.Dk} {l l' : Sp.Lg} {s : Sp.R15} {q : List Nat} {c : Nat} (h : Rep ly p dk l s) (hw : Wrote ly.at_ ly.base p dk l q c p' dk' l') (hq : ∀ n ∈ q, ∃ it, p.find n = some it) (hnd : q.Nodup) (h8 : (p.dirt q).length ≤ 8) :
    (s.write q).1 = c ∧ Rep ly p' dk' l' (s.write q).2 := by
  have hD := Sp.dirt_nil_iff p q
  have hT := Sp.lsnOf_eq p q
  rw [← h.L] at hD hT
  rcases hw with ⟨h1, rfl, rfl, rfl, rfl⟩ | ⟨h1, h2, rfl, rfl, rfl, rfl⟩ | ⟨h1, h2, rfl, rfl, rfl, rfl⟩
  · have e : s.write q = (0, s) := by unfold Sp.R15.write; rw [if_pos (hD.1 h1)]
    rw [e]; exact ⟨rfl, h⟩
  · have e : s.write q = (2, s) := by unfold Sp.R15.write; rw [if_neg (fun e => h1 (hD.2 e)), if_pos (by rw [hT, h.next]; exact h2)]
    rw [e]; exact ⟨rfl, h⟩
  · have hpm : ∀ x ∈ p.dirt q, x.2.length = 512 ∧ Sp.inside (dk.forceTo l (p.topOf q)).sure.length ly.at_ ly.base x.1 := fun x hx => by
      obtain ⟨hx1, it, hf, _, hx2⟩ := Sp.Pl.dirt_mem hx
      obtain ⟨hit, hide⟩ := Sp.Pl.find_mem hf
      rw [(Sp.Dk.forceTo_spec h.dl.loose h.dl.fuse h.lwf _).2.2.1, hx2]
      exact ⟨pgBytes_length (h.wf.pg it hit).2, by rw [← hide]; exact h.inside (h.in_ it hit).1 (h.in_ it hit).2⟩
    obtain ⟨f1, f2, f3, f4⟩ := Sp.Dk.forceTo_spec h.dl.loose h.dl.fuse h.lwf (p.topOf q)
    obtain ⟨t1, t2, t3, t4, t5⟩ := Sp.twin_many (dk.forceTo l (p.topOf q)) f1 f2 ly.at_ ly.base (p.dirt q) (by rw [Sp.Pl.dirt_ids]; exact hnd.filter _) h8 hpm
    have e : s.write q = (0, { s with forced := if s.forced ≤ Sp.lsnOf s.L q then s.next else s.forced, L := s.L.map (Sp.cleaned q), disk := fun n => if n ∈ q ∧ Sp.isDirty s.L n = true then ((Sp.getR? s.L n).map (·.page)).getD (s.disk n) else s.disk n }) := by
      unfold Sp.R15.write; rw [if_neg (fun e => h1 (hD.2 e)), if_neg (by rw [hT, h.next]; omega)]
    rw [e]
    have hfind : ∀ it ∈ p.items, p.find it.page.id = some it := fun it hit => Sp.Pl.find_of h.wf hit
    have hdk : ∀ n, (if n ∈ q ∧ Sp.isDirty s.L n = true then ((Sp.getR? s.L n).map (·.page)).getD (s.disk n) else s.disk n) = (if n ∈ (p.dirt q).map (·.1) then (match p.find n with | some it => it.page | none => s.disk n) else s.disk n) := fun n => by
      rw [h.L, Sp.isDirty_eq, Sp.getR_eq, Sp.Pl.dirt_ids]
      simp only [List.mem_filter]
      split
      · cases p.find n <;> rfl
      · rfl
    have hnew : ∀ n, n ∈ (p.dirt q).map (·.1) → ∃ it ∈ p.items, it.page.id = n ∧ p.find n = some it ∧ (n, pgBytes it.page) ∈ p.dirt q := fun n hn => by
      obtain ⟨x, hx, rfl⟩ := List.mem_map.1 hn
      obtain ⟨hx1, it, hf, _, hx2⟩ := Sp.Pl.dirt_mem hx
      obtain ⟨hit, hide⟩ := Sp.Pl.find_mem hf
      exact ⟨it, hit, hide, hf, by rw [← hx2]; exact hx⟩
    refine ⟨rfl, ⟨?_, Sp.Lg.forceTo_wf h.lwf _, h.frames, ?_, h.top, ?_, ?_, ?_, ?_, ?_, ?_, h.area, h.tight, ?_, ?_⟩⟩
    · have hf : ∀ (D : List Nat), (p.wash D).wf := fun D => by
        refine ⟨h.wf.n1, h.wf.n64, ?_, ?_, fun y hy => ?_, fun y hy => ?_⟩
        · have e : (p.wash D).items.map (·.idx) = p.items.map (·.idx) := by
            unfold Sp.Pl.wash
            rw [List.map_map]
            apply List.map_congr_left
            intro x _
            simp only [Function.comp]
            split <;> rfl
          rw [e]; exact h.wf.idx
        · rw [Sp.Pl.wash_ids]; exact h.wf.ids
        · obtain ⟨x, hx, rfl⟩ := List.mem_map.1 hy
          have := h.wf.pg x hx
          split <;> exact this
        · obtain ⟨x, hx, rfl⟩ := List.mem_map.1 hy
          have := h.wf.small x hx
          split
          · exact ⟨this.1, by simp⟩
          · exact this
      exact hf _
    · show s.L.map (Sp.cleaned q) = _
      rw [h.L]
      unfold Sp.Pl.wash
      rw [List.map_map, List.map_map]
      apply List.map_congr_left
      intro x hx
      simp only [Function.comp]
      have hdx : p.isD x.page.id = x.dirty := by unfold Sp.Pl.isD; rw [hfind x hx]
      rw [Sp.Pl.dirt_ids]
      unfold Sp.cleaned
      simp only [List.mem_filter, hdx]
      by_cases hc : x.dirty = true ∧ x.page.id ∈ q
      · rw [if_pos (show (x.ri.dirty = true ∧ x.ri.page.id ∈ q) from hc), if_pos ⟨hc.2, hc.1⟩]; rfl
      · rw [if_neg (show ¬ (x.ri.dirty = true ∧ x.ri.page.id ∈ q) from hc), if_neg (fun h => hc ⟨h.2, h.1⟩)]
    · show (if s.forced ≤ Sp.lsnOf s.L q then s.next else s.forced) = _
      rw [hT, h.forced, h.next, Sp.Lg.forceTo_forced h.lwf]
    · exact h.next.trans (Sp.Lg.forceTo_next l _).symm
    · intro n hn1 hn2
      show Sp.Pg.wf (ite _ _ _) ∧ Sp.Pg.may (ite _ _ _) ∧ Sp.Pg.id (ite _ _ _) = n
      rw [hdk n]
      split
      · rename_i hm
        obtain ⟨it, hit, hide, hf, _⟩ := hnew n hm
        rw [hf]
        exact ⟨(h.wf.pg it hit).1, (h.wf.pg it hit).2, hide⟩
      · exact h.ok n hn1 hn2
    · refine ⟨by rw [t3, f3]; exact h.dkt.len, t1, t2, fun n hn1 hn2 => ?_⟩
      show _ = pgBytes (ite _ _ _)
      rw [hdk n]
      split
      · rename_i hm
        obtain ⟨it, hit, hide, hf, hmem⟩ := hnew n hm
        rw [hf]
        exact t4 _ hmem
      · rename_i hm
        have hin := h.inside hn1 hn2
        unfold Sp.inside at hin
        rw [t5 n (fun x hx e => hm (List.mem_map.2 ⟨x, hx, e⟩)) hin.2 (by rw [f3]; exact hin.1), f4 _ (.inr (by have := h.lo; omega))]
        exact h.dkt.page n hn1 hn2
    · exact ⟨t1, t2, by rw [t3, f3, (Sp.Lg.forceTo_at l _).1, (Sp.Lg.forceTo_at l _).2]; exact h.dl.fit, by rw [t3, f3]; exact h.dl.area, by rw [t3, f3]; exact h.dl.homes, by rw [Sp.Lg.forceTo_next]; exact h.dl.next⟩
    · rw [(Sp.Lg.forceTo_at l _).1, (Sp.Lg.forceTo_at l _).2]; exact h.lo
    · have hl := h.dkt.len
      have hf := ly.fits
      have h0 := t5 0 (fun x hx e => by
        obtain ⟨hx1, it, hf, _, hx2⟩ := Sp.Pl.dirt_mem hx
        obtain ⟨hit, hide⟩ := Sp.Pl.find_mem hf
        have := (h.in_ it hit).1
        omega) (by have := h.area; omega) (by rw [f3]; omega)
      rw [Nat.zero_mul, Nat.add_zero] at h0
      rw [h0, f4 _ (.inr (by have := h.lo; have := h.area; omega))]
      exact h.zero
    · intro y hy
      obtain ⟨x, hx, rfl⟩ := List.mem_map.1 hy
      have := h.in_ x hx
      split <;> exact this
end Go.Proofs.YtndglfiepeefdaaGreat

/- What take, Pin and the like do to the plain pool. No walk. -/
namespace Go.Proofs.YtndglfiepeefdaaGreat
open Go.RowKit Go.Conc

theorem Rep.of {ly : Ly} {p p' : Sp.Pl} {dk : Sp.Dk} {l : Sp.Lg} {s : Sp.R15} (h : Rep ly p dk l s) (wf' : p'.wf) (hn : p'.n = p.n) {L' : List Sp.RI} (hL : p'.items.map Sp.It.ri = L') (hin : ∀ it ∈ p'.items, 1 ≤ it.page.id ∧ it.page.id ≤ ly.top) : Rep ly p' dk l { s with L := L' } :=
  ⟨wf', h.lwf, h.frames.trans hn.symm, hL.symm, h.top, h.forced, h.next, h.ok, h.dkt, h.dl, h.lo, h.area, h.tight, h.zero, hin⟩

namespace Sp
theorem dropR_eq (p : Pl) (id i : Nat) : (p.drop id i).items.map It.ri = dropR (p.items.map It.ri) id := by
  unfold Pl.drop dropR
  rw [List.filter_map]
  rfl
theorem pinR_last (p : Pl) (id : Nat) : (((p.pinUp id).last id).items).map It.ri = pinR (p.items.map It.ri) id := by
  have key : ∀ (l : List It), ((l.map fun x => if x.page.id = id then { x with pins := x.pins + 1 } else x).filter (fun x => x.page.id != id)).map It.ri = dropR (l.map It.ri) id := fun l => by
    induction l with
    | nil => rfl
    | cons x xs ih =>
      rw [List.map_cons, List.map_cons]
      by_cases hx : x.page.id = id
      · rw [if_pos hx, List.filter_cons_of_neg (by simp [hx])]
        unfold dropR at ih ⊢
        rw [List.filter_cons_of_neg (by simp [It.ri, hx])]
        exact ih
      · rw [if_neg hx, List.filter_cons_of_pos (by simp [hx])]
        unfold dropR at ih ⊢
        rw [List.filter_cons_of_pos (by simp [It.ri, hx]), List.map_cons, ih]
  have key2 : ∀ (l : List It), ((l.map fun x => if x.page.id = id then { x with pins := x.pins + 1 } else x).filter (fun x => x.page.id == id)).map It.ri = ((l.map It.ri).filter (fun x => x.page.id == id)).map (fun x => { x with pins := x.pins + 1 }) := fun l => by
    induction l with
    | nil => rfl
    | cons x xs ih =>
      rw [List.map_cons, List.map_cons]
      by_cases hx : x.page.id = id
      · rw [if_pos hx, List.filter_cons_of_pos (by simp [hx]), List.filter_cons_of_pos (by simp [It.ri, hx]), List.map_cons, List.map_cons, ih]
        rfl
      · rw [if_neg hx, List.filter_cons_of_neg (by simp [hx]), List.filter_cons_of_neg (by simp [It.ri, hx]), ih]
  show List.map It.ri (_ ++ _) = _
  rw [List.map_append]
  exact congr (congrArg _ (key p.items)) (key2 p.items)
theorem dropR_none {L : List RI} {id : Nat} (h : ∀ x ∈ L, x.page.id ≠ id) : dropR L id = L := by
  unfold dropR
  rw [List.filter_eq_self]
  intro x hx
  simpa using h x hx
theorem pinR_new {L : List RI} {x : Pg} (h : ∀ y ∈ L, y.page.id ≠ x.id) : pinR (L ++ [⟨x, 0, false, 0⟩]) x.id = L ++ [⟨x, 1, false, 0⟩] := by
  unfold pinR
  have e1 : dropR (L ++ [⟨x, 0, false, 0⟩]) x.id = L := by
    unfold dropR
    rw [List.filter_append]
    have := dropR_none h
    unfold dropR at this
    rw [this]
    simp
  have e2 : L.filter (fun y => y.page.id == x.id) = [] := by
    rw [List.filter_eq_nil_iff]
    intro y hy
    simpa using h y hy
  rw [e1, List.filter_append, e2]
  simp
theorem ri_ids (p : Pl) {id : Nat} (h : p.find id = none) : ∀ y ∈ p.items.map It.ri, y.page.id ≠ id := fun y hy => by
  obtain ⟨x, hx, rfl⟩ := List.mem_map.1 hy
  exact Pl.find_none.1 h x hx
theorem pinUp_bring {p : Pl} {x : Pg} {i : Nat} {rest : List Nat} (h : p.find x.id = none) : ((p.bring x i rest).pinUp x.id).items = p.items ++ [⟨x, 1, false, 0, i⟩] := by
  show List.map _ (p.items ++ [_]) = _
  rw [List.map_append]
  have h1 := Pl.find_none.1 h
  congr 1
  · rw [List.map_congr_left (g := id)]
    · simp
    · intro y hy
      simp [h1 y hy]
  · simp
theorem upR_eq (p : Pl) (id : Nat) (f : It → It) (g : RI → RI) (h : ∀ x, (f x).ri = g x.ri) : (p.upd id f).items.map It.ri = upR (p.items.map It.ri) id g := by
  unfold Pl.upd upR
  rw [List.map_map, List.map_map]
  apply List.map_congr_left
  intro x _
  simp only [Function.comp]
  by_cases hx : x.page.id = id
  · rw [if_pos hx, if_pos (show x.ri.page.id = id from hx)]; exact h x
  · rw [if_neg hx, if_neg (show ¬ x.ri.page.id = id from hx)]
end Sp

theorem Rep.len {ly : Ly} {p : Sp.Pl} {dk : Sp.Dk} {l : Sp.Lg} {s : Sp.R15} (h : Rep ly p dk l s) : s.L.length + p.free.length = s.frames := by
  have := h.wf.len
  rw [h.L, h.frames, List.length_map]; omega
theorem Rep.full {ly : Ly} {p : Sp.Pl} {dk : Sp.Dk} {l : Sp.Lg} {s : Sp.R15} (h : Rep ly p dk l s) : s.L.length < s.frames ↔ p.free ≠ [] := by
  have := h.len
  cases hf : p.free with
  | nil => rw [hf] at this; simp at this; simp; omega
  | cons a b => rw [hf] at this; simp at this; simp; omega

/-- The first that is not pinned. -/
theorem first_free {p : Sp.Pl} (hwf : p.wf) {pre post : List Nat} {it : Sp.It} (h : p.items.map (·.page.id) = pre ++ it.page.id :: post) (hpre : ∀ n ∈ pre, ∃ y, p.find n = some y ∧ 0 < y.pins) (hf : p.find it.page.id = some it) (hp : it.pins = 0) :
    (p.items.map Sp.It.ri).find? (fun x => x.pins == 0) = some it.ri := by
  obtain ⟨l1, l2, e1, e2, e3⟩ := List.map_eq_append_iff.1 h
  obtain ⟨y, l3, e4, e5, e6⟩ := List.map_eq_cons_iff.1 e3
  have hy : y ∈ p.items := by rw [e1, e4]; simp
  have hye : y = it := by
    have := Sp.Pl.find_of hwf hy
    rw [e5, hf] at this
    injection this with this
    exact this.symm
  subst hye
  rw [e1, e4, List.map_append, List.map_cons, List.find?_append]
  have h1 : (l1.map Sp.It.ri).find? (fun x => x.pins == 0) = none := by
    rw [List.find?_eq_none]
    intro x hx
    obtain ⟨z, hz, rfl⟩ := List.mem_map.1 hx
    obtain ⟨q, hq, hqp⟩ := hpre z.page.id (by rw [← e2]; exact List.mem_map.2 ⟨z, hz, rfl⟩)
    rw [Sp.Pl.find_of hwf (by rw [e1]; exact List.mem_append_left _ hz)] at hq
    injection hq with hq
    subst hq
    simp [Sp.It.ri]; omega
  rw [h1]
  simp [Sp.It.ri, hp]

theorem Rep.drops {ly : Ly} {p p2 : Sp.Pl} {dk dk' : Sp.Dk} {l l' : Sp.Lg} {s : Sp.R15} {it : Sp.It} {c : Nat} (h : Rep ly p dk l s) (hit : it ∈ p.items) (hw : Wrote ly.at_ ly.base p dk l [it.page.id] c p2 dk' l') :
    (c ≠ 0 → s.drop it.page.id = (c, s)) ∧ (c = 0 → (s.drop it.page.id).1 = 0 ∧ Rep ly (p.drop it.page.id it.idx) dk' l' (s.drop it.page.id).2) := by
  have hf := Sp.Pl.find_of h.wf hit
  obtain ⟨k1, k2, k3, k4, k5⟩ := hw.keep
  obtain ⟨w1, w2⟩ := h.wrote hw (fun n hn => by rw [List.mem_singleton.1 hn]; exact ⟨it, hf⟩) (by simp) (by have := Sp.Pl.dirt_len p [it.page.id]; simp at this; omega)
  refine ⟨fun hc => ?_, fun hc => ?_⟩
  · have e : s.write [it.page.id] = (c, s) := by
      rcases hw with ⟨_, rfl, _⟩ | ⟨h1, h2, rfl, _⟩ | ⟨_, _, rfl, _⟩
      · exact absurd rfl hc
      · have hD := Sp.dirt_nil_iff p [it.page.id]
        have hT := Sp.lsnOf_eq p [it.page.id]
        rw [← h.L] at hD hT
        unfold Sp.R15.write; rw [if_neg (fun e => h1 (hD.2 e)), if_pos (by rw [hT, h.next]; exact h2)]
      · exact absurd rfl hc
    unfold Sp.R15.drop
    simp only [e]
    rw [if_pos hc]
  · subst hc
    have hdr := hw.drop it.idx
    unfold Sp.R15.drop
    simp only [w1]
    rw [if_neg (by simp)]
    refine ⟨rfl, ?_⟩
    rw [← hdr]
    have hwf := h.wf.drop hit
    rw [← hdr] at hwf
    refine w2.of hwf rfl ?_ (fun y hy => w2.in_ y (List.mem_filter.1 hy).1)
    rw [Sp.dropR_eq, w2.L]

/-- Room was found. -/
theorem Rep.room_ok {ly : Ly} {p p' : Sp.Pl} {dk dk' : Sp.Dk} {l l' : Sp.Lg} {s : Sp.R15} {ids' : List Nat} (h : Rep ly p dk l s) (ht : TookS ly.at_ ly.base p dk l (p.items.map (·.page.id)) p' ids' dk' l') :
    s.room.1 = 0 ∧ Rep ly p' dk' l' s.room.2 ∧ ids' = p'.items.map (·.page.id) := by
  rcases ht with ⟨h1, rfl, rfl, rfl, rfl⟩ | ⟨h1, pre, it, post, p2, hsp, hpre, hfi, hp0, hw, rfl, rfl⟩
  · have e : s.room = (0, s) := by unfold Sp.R15.room; rw [if_pos (h.full.2 h1)]
    rw [e]; exact ⟨rfl, h, rfl⟩
  · have hit := (Sp.Pl.find_mem hfi).1
    have e : s.room = s.drop it.page.id := by
      unfold Sp.R15.room
      rw [if_neg (fun e => (h.full.1 e) h1), h.L, first_free h.wf hsp hpre hfi hp0]
      rfl
    rw [e]
    refine ⟨((h.drops hit hw).2 rfl).1, ((h.drops hit hw).2 rfl).2, ?_⟩
    simp only [Sp.Pl.drop]
    rw [List.filter_map]
    rfl
/-- Room was not found. -/
theorem Rep.room_err {ly : Ly} {p : Sp.Pl} {dk : Sp.Dk} {l : Sp.Lg} {s : Sp.R15} {c : Nat} (h : Rep ly p dk l s) (ht : TookE ly.at_ ly.base p dk l (p.items.map (·.page.id)) c) : s.room = (c, s) ∧ c ≠ 0 := by
  obtain ⟨h1, ⟨rfl, hall⟩ | ⟨pre, it, post, p2, d', l', hsp, hpre, hfi, hp0, hc, hw⟩⟩ := ht
  · have e : (p.items.map Sp.It.ri).find? (fun x => x.pins == 0) = none := by
      rw [List.find?_eq_none]
      intro x hx
      obtain ⟨z, hz, rfl⟩ := List.mem_map.1 hx
      obtain ⟨q, hq, hqp⟩ := hall z.page.id (List.mem_map.2 ⟨z, hz, rfl⟩)
      rw [Sp.Pl.find_of h.wf hz] at hq
      injection hq with hq
      subst hq
      simp [Sp.It.ri]; omega
    refine ⟨?_, by decide⟩
    unfold Sp.R15.room
    rw [if_neg (fun e => (h.full.1 e) h1), h.L, e]
  · refine ⟨?_, hc⟩
    unfold Sp.R15.room
    rw [if_neg (fun e => (h.full.1 e) h1), h.L, first_free h.wf hsp hpre hfi hp0]
    exact (h.drops (Sp.Pl.find_mem hfi).1 hw).1 hc
end Go.Proofs.YtndglfiepeefdaaGreat

/- The walks of package twin's Read outside of a disk, and of package pool's Pin of what is no page there. -/
namespace Go.Proofs.YtndglfiepeefdaaGreat
open Go.RowKit

set_option maxRecDepth 100000 in
set_option maxHeartbeats 2000000 in
theorem twin_read_out {F : Foot} {w : World} {g : Nat} {d : Sp.Dk} (h : IsDk F w g d) (base page : Nat) (hp : page < 4294967296) (hb : base ≤ d.sure.length) (ho : d.sure.length < base + page * 4 + 4) :
    Calls Tryz.prog 49 #[.pointer (some ⟨g, 0, none⟩), .int .i64 base, .int .u32 page] w fun e w' => e = .returned (.tuple #[str [], .int .i64 2]) ∧ w' = w := by
  have hfew := h.wf.few
  have HL := Lib.hid (disk_len h)
  have d1 : decide ((base : Int) < 0) = false := by simp
  have d2 : decide ((d.sure.length : Int) < base) = false := by rw [decide_eq_false_iff_not]; omega
  have d3 : decide ((d.sure.length : Int) - 4 < base + page * 4) = true := by rw [decide_eq_true_eq]; omega
  clear h
  go_enter Tryz.func49, Tryz.ntmps49
  go_wp2_with fail
  refine HL.out.mono ?_
  rintro e w1 ⟨rfl, hw⟩
  subst w1
  go_wp2_with fail
  refine HL.out.mono ?_
  rintro e w1 ⟨rfl, hw⟩
  subst w1
  go_wp2_with fail
  go_ret2
  exact ⟨rfl, rfl⟩

set_option maxRecDepth 100000 in
set_option maxHeartbeats 4000000 in
/-- A page that the disk has not. -/
theorem pool_pin_far {F : Foot} {w : World} {gp gd gl at_ base : Nat} {p : Sp.Pl} (h : IsPl F w gp gd gl at_ base p) {id : Nat} (hid : id < 4294967296) (hf : p.find id = none)
    (HTR : ∀ W, Below w.heap.size w W → Calls Tryz.prog 49 #[ptr gd, .int .i64 base, u32v id] W fun e w' => e = .returned (.tuple #[str [], .int .i64 2]) ∧ Below W.heap.size W w') :
    Calls Tryz.prog 11 #[ptr gp, u32v id] w fun e w' => e = .returned (.tuple #[zeroPgV, .int .i64 2]) ∧ Below w.heap.size w w' := by
  obtain ⟨R, fb, cb, mb, v, s0, r, cs, h⟩ := h
  have hb2 := Blk.new w 32 #[.int .u8 0, .int .u8 0, .int .u32 0, .int .u64 0, .int .u32 0, .slice none 0 0]
  have hbw := (Below.refl w.heap.size w).alloc (Nat.le_refl _) (.cells #[.int .u8 0, .int .u8 0, .int .u32 0, .int .u64 0, .int .u32 0, .slice none 0 0] 32)
  have h2 := h.keep (w' := w.alloc (.cells #[.int .u8 0, .int .u8 0, .int .u32 0, .int .u64 0, .int .u32 0, .slice none 0 0] 32)) (by simp) (fun b hb => Below.heap_alloc w _ b (h.lt b hb))
  obtain ⟨c0, c1, c2, c3, c4, c5, c6, c7⟩ := h2.cells
  have HM := Lib.hid (pool_made c6)
  have hlk := h2.look_out hid hf
  have HT := Lib.hid HTR
  have hz0 : ∀ W, (Instr.build 32 #[]).run Tryz.prog W = .ok zeroPgV W := fun W => by kernel_rfl
  clear c1 c2 c4 c5 c7 h HTR hf
  go_enter Tryz.func11, Tryz.ntmps11
  go_wp2_with fail
  obtain ⟨w2, hw2⟩ : ∃ w2, w2 = w.alloc (.cells #[.int .u8 0, .int .u8 0, .int .u32 0, .int .u64 0, .int .u32 0, .slice none 0 0] 32) := ⟨_, rfl⟩
  rw [← hw2] at HM hlk hb2 hbw c0 c3 c6 h2 ⊢
  obtain ⟨g4, hg⟩ : ∃ g, g = w.heap.size := ⟨_, rfl⟩
  rw [← hg] at hb2 ⊢
  have hg4l : w.heap.size ≤ g4 := by omega
  clear hw2 hg
  refine HM.out.mono ?_
  rintro e w1 ⟨rfl, hw⟩
  subst w1
  go_wp2_with fail
  have hS := Lib.hid (⟨c0, c3⟩ : w2.drew.cell? ⟨gp, 0, none⟩ = some (ptr gd) ∧ w2.drew.cell? ⟨gp, 3, none⟩ = some (.int .i64 base))
  have hgp0 := h2.blk
  clear c0 c3 c6 h2 HM hlk
  refine R_begin (fun W => W.cell? ⟨gp, 0, none⟩ = some (ptr gd) ∧ W.cell? ⟨gp, 3, none⟩ = some (.int .i64 base)) (fun _ => false) rfl ?_
  refine R_tk 0 28 hS.out ?_
  refine R_tk 1 29 hS.out ?_
  refine R_tk 2 30 hS.out ?_
  refine R_tk 3 31 hS.out ?_
  refine R_tk 4 32 hS.out ?_
  refine R_tk 5 33 hS.out ?_
  refine R_tk 6 34 hS.out ?_
  refine R_tk 7 35 hS.out ?_
  refine R_tk 8 36 hS.out ?_
  simp only [zSA, zSB, zSC]
  refine R_call 9 37 (w' := w2.drew) rfl rfl (by rfl) (by kernel_rfl) ?_ (HT.out w2.drew ⟨hbw.os, hbw.tape, hbw.output, hbw.size, hbw.block⟩) ?_
  · go_simp
  rintro e w3 ⟨rfl, hb3⟩
  have hgp3 := hgp0.drew.below hb3 hgp0.lt
  have hS3 := Lib.hid (show w3.cell? ⟨gp, 0, none⟩ = some (ptr gd) ∧ w3.cell? ⟨gp, 3, none⟩ = some (.int .i64 base) from ⟨(hgp3.cell 0).trans rfl, (hgp3.cell 3).trans rfl⟩)
  refine ⟨_, rfl, fun _ => hS3.out, ?_⟩
  simp only [zSA, zSB, zSC]
  refine R_tk 10 27 hS3.out ?_
  refine R_tk 11 38 hS3.out ?_
  refine R_tk 12 39 hS3.out ?_
  refine R_tk 13 8 hS3.out ?_
  refine R_tk 14 9 hS3.out ?_
  simp only [zSA, zSB, zSC]
  refine R_done (by kernel_rfl) ?_ _
  rename_i K9 hK9
  refine hK9 _ _ ?_
  clear hK9
  have hbd : Below w2.heap.size w2 w3 := (Below.refl w2.heap.size w2).drew.trans hb3
  have hb3' := hb2.below hbd hb2.lt
  have hbw3 : Below w.heap.size w w3 := hbw.trans (hbd.mono hbw.size)
  clear hS hS3 hgp3 hgp0 hb2 hbw hb3 hbd HT
  have HB7 := Lib.hid hb3'
  have hbw7 := hbw3
  clear hb3' hbw3
  have z0 := HB7.out.cell 0
  have f0 := HB7.out.frozen 0
  have z1 := HB7.out.cell 1
  have f1 := HB7.out.frozen 1
  have z2 := HB7.out.cell 2
  have f2 := HB7.out.frozen 2
  have z3 := HB7.out.cell 3
  have f3 := HB7.out.frozen 3
  have z4 := HB7.out.cell 4
  have f4 := HB7.out.frozen 4
  have z5 := HB7.out.cell 5
  have f5 := HB7.out.frozen 5
  simp only [zGA, zGB, zGC] at z0 z1 z2 z3 z4 z5
  go_wp2_with fail
  obtain ⟨W8, hW8, hX8, ht8, hk8⟩ := six_set HB7.out (.int .u8 0) (.int .u8 0) (.int .u32 0) (.int .u64 0) (.int .u32 0) (.slice none 0 0)
  rw [hW8]
  have z0 := hX8.cell 0
  have z1 := hX8.cell 1
  have z2 := hX8.cell 2
  have z3 := hX8.cell 3
  have z4 := hX8.cell 4
  have z5 := hX8.cell 5
  simp only [zGA, zGB, zGC] at z0 z1 z2 z3 z4 z5
  clear f0 f1 f2 f3 f4 f5 hW8
  exact bodyPost_ret (v := .tuple #[zeroPgV, .int .i64 2]) (by rw [results_cell_tmp rfl]; go_simp) rfl ⟨rfl, hbw7.trans (ht8.below hbw7.size (fun b hb => by rw [hb]; exact hg4l))⟩

set_option maxRecDepth 100000 in
set_option maxHeartbeats 4000000 in
/-- Bytes that are no page. -/
theorem pool_pin_bad {F : Foot} {w : World} {gp gd gl at_ base : Nat} {p : Sp.Pl} (h : IsPl F w gp gd gl at_ base p) {id : Nat} (hid : id < 4294967296) (hf : p.find id = none)
    (t : Sp.Bs) (h4 : 4 ≤ t.length) (hl : t.length ≤ 1000000000) (hne : Sp.sealed (t.take (t.length - 4)) ≠ t) (HTR : ∀ W, Below w.heap.size w W → Calls Tryz.prog 49 #[ptr gd, .int .i64 base, u32v id] W fun e w' => e = .returned (.tuple #[str t, .int .i64 0]) ∧ Below W.heap.size W w') :
    Calls Tryz.prog 11 #[ptr gp, u32v id] w fun e w' => e = .returned (.tuple #[zeroPgV, .int .i64 60]) ∧ Below w.heap.size w w' := by
  obtain ⟨R, fb, cb, mb, v, s0, r, cs, h⟩ := h
  have hb2 := Blk.new w 32 #[.int .u8 0, .int .u8 0, .int .u32 0, .int .u64 0, .int .u32 0, .slice none 0 0]
  have hbw := (Below.refl w.heap.size w).alloc (Nat.le_refl _) (.cells #[.int .u8 0, .int .u8 0, .int .u32 0, .int .u64 0, .int .u32 0, .slice none 0 0] 32)
  have h2 := h.keep (w' := w.alloc (.cells #[.int .u8 0, .int .u8 0, .int .u32 0, .int .u64 0, .int .u32 0, .slice none 0 0] 32)) (by simp) (fun b hb => Below.heap_alloc w _ b (h.lt b hb))
  obtain ⟨c0, c1, c2, c3, c4, c5, c6, c7⟩ := h2.cells
  have HM := Lib.hid (pool_made c6)
  have hlk := h2.look_out hid hf
  have HT := Lib.hid HTR
  have hz0 : ∀ W, (Instr.build 32 #[]).run Tryz.prog W = .ok zeroPgV W := fun W => by kernel_rfl
  clear c1 c2 c4 c5 c7 h HTR hf
  go_enter Tryz.func11, Tryz.ntmps11
  go_wp2_with fail
  obtain ⟨w2, hw2⟩ : ∃ w2, w2 = w.alloc (.cells #[.int .u8 0, .int .u8 0, .int .u32 0, .int .u64 0, .int .u32 0, .slice none 0 0] 32) := ⟨_, rfl⟩
  rw [← hw2] at HM hlk hb2 hbw c0 c3 c6 h2 ⊢
  obtain ⟨g4, hg⟩ : ∃ g, g = w.heap.size := ⟨_, rfl⟩
  rw [← hg] at hb2 ⊢
  have hg4l : w.heap.size ≤ g4 := by omega
  clear hw2 hg
  refine HM.out.mono ?_
  rintro e w1 ⟨rfl, hw⟩
  subst w1
  go_wp2_with fail
  have hS := Lib.hid (⟨c0, c3⟩ : w2.drew.cell? ⟨gp, 0, none⟩ = some (ptr gd) ∧ w2.drew.cell? ⟨gp, 3, none⟩ = some (.int .i64 base))
  have hgp0 := h2.blk
  clear c0 c3 c6 h2 HM hlk
  refine R_begin (fun W => W.cell? ⟨gp, 0, none⟩ = some (ptr gd) ∧ W.cell? ⟨gp, 3, none⟩ = some (.int .i64 base)) (fun _ => false) rfl ?_
  refine R_tk 0 28 hS.out ?_
  refine R_tk 1 29 hS.out ?_
  refine R_tk 2 30 hS.out ?_
  refine R_tk 3 31 hS.out ?_
  refine R_tk 4 32 hS.out ?_
  refine R_tk 5 33 hS.out ?_
  refine R_tk 6 34 hS.out ?_
  refine R_tk 7 35 hS.out ?_
  refine R_tk 8 36 hS.out ?_
  simp only [zSA, zSB, zSC]
  refine R_call 9 37 (w' := w2.drew) rfl rfl (by rfl) (by kernel_rfl) ?_ (HT.out w2.drew ⟨hbw.os, hbw.tape, hbw.output, hbw.size, hbw.block⟩) ?_
  · go_simp
  rintro e w3 ⟨rfl, hb3⟩
  have hgp3 := hgp0.drew.below hb3 hgp0.lt
  have hS3 := Lib.hid (show w3.cell? ⟨gp, 0, none⟩ = some (ptr gd) ∧ w3.cell? ⟨gp, 3, none⟩ = some (.int .i64 base) from ⟨(hgp3.cell 0).trans rfl, (hgp3.cell 3).trans rfl⟩)
  refine ⟨_, rfl, fun _ => hS3.out, ?_⟩
  simp only [zSA, zSB, zSC]
  refine R_tk 10 27 hS3.out ?_
  refine R_tk 11 38 hS3.out ?_
  refine R_tk 12 39 hS3.out ?_
  refine R_tk 13 8 hS3.out ?_
  refine R_tk 14 9 hS3.out ?_
  simp only [zSA, zSB, zSC]
  refine R_done (by kernel_rfl) ?_ _
  rename_i K9 hK9
  refine hK9 _ _ ?_
  clear hK9
  have hbd : Below w2.heap.size w2 w3 := (Below.refl w2.heap.size w2).drew.trans hb3
  have hb3' := hb2.below hbd hb2.lt
  have hbw3 : Below w.heap.size w w3 := hbw.trans (hbd.mono hbw.size)
  clear hS hS3 hgp3 hgp0 hb2 hbw hb3 hbd HT
  have HDEC := Lib.hid (page_decode_bad t w3 h4 hl hne)
  clear hne h4 hl
  go_wp2_with fail
  refine HDEC.out.mono ?_
  rintro e w4 ⟨rfl, hb4⟩
  have hb4' := hb3'.below hb4 hb3'.lt
  have hbw4 : Below w.heap.size w w4 := hbw3.trans (hb4.mono hbw3.size)
  have hb5 := (Below.refl w4.heap.size w4).alloc (Nat.le_refl _) (.cells #[.int .u8 0, .int .u8 0, .int .u32 0, .int .u64 0, .int .u32 0, .slice none 0 0] 32)
  have HB7 := Lib.hid (hb4'.below hb5 hb4'.lt)
  have hbw7 := hbw4.trans (hb5.mono hbw4.size)
  clear hb4 hb4' hbw4 hb3' hbw3 HDEC hb5
  have z0 := HB7.out.cell 0
  have f0 := HB7.out.frozen 0
  have z1 := HB7.out.cell 1
  have f1 := HB7.out.frozen 1
  have z2 := HB7.out.cell 2
  have f2 := HB7.out.frozen 2
  have z3 := HB7.out.cell 3
  have f3 := HB7.out.frozen 3
  have z4 := HB7.out.cell 4
  have f4 := HB7.out.frozen 4
  have z5 := HB7.out.cell 5
  have f5 := HB7.out.frozen 5
  simp only [zGA, zGB, zGC] at z0 z1 z2 z3 z4 z5
  go_wp2_with fail
  obtain ⟨W8, hW8, hX8, ht8, hk8⟩ := six_set HB7.out (.int .u8 0) (.int .u8 0) (.int .u32 0) (.int .u64 0) (.int .u32 0) (.slice none 0 0)
  rw [hW8]
  have z0 := hX8.cell 0
  have z1 := hX8.cell 1
  have z2 := hX8.cell 2
  have z3 := hX8.cell 3
  have z4 := hX8.cell 4
  have z5 := hX8.cell 5
  simp only [zGA, zGB, zGC] at z0 z1 z2 z3 z4 z5
  clear f0 f1 f2 f3 f4 f5 hW8
  exact bodyPost_ret (v := .tuple #[zeroPgV, .int .i64 60]) (by rw [results_cell_tmp rfl]; go_simp) rfl ⟨rfl, hbw7.trans (ht8.below hbw7.size (fun b hb => by rw [hb]; exact hg4l))⟩

end Go.Proofs.YtndglfiepeefdaaGreat

/- A pool with its disk and its log in memory, as a law sees it; Pin. -/
namespace Go.Proofs.YtndglfiepeefdaaGreat
open Go.RowKit Go.Conc

/-- A pool (block gp), its disk (gd), its log (gl); the blocks of K are none of theirs. -/
def PkAt (ly : Ly) (K : Foot) (w : World) (gd gl gp : Nat) (l : Sp.Lg) (s : Sp.R15) : Prop :=
  ∃ (p : Sp.Pl) (D F G : Foot) (dk : Sp.Dk), IsPl F w gp gd gl ly.at_ ly.base p ∧ IsDk D w gd dk ∧ IsLg G w gl gd l ∧ (∀ b, F b → ¬ D b) ∧ (∀ b, F b → ¬ G b) ∧ (∀ b, D b → ¬ G b) ∧ Rep ly p dk l s ∧ (∀ b, allF F D G b → ¬ K b) ∧ (∀ b, K b → b < w.heap.size)

theorem pk_make {ly : Ly} {K K' : Foot} {w w' : World} {gd gl gp : Nat} {l' : Sp.Lg} {s' : Sp.R15} {p' : Sp.Pl} {F D G F' D' G' : Foot} {dk' : Sp.Dk} (hpl : IsPl F' w' gp gd gl ly.at_ ly.base p') (hd : IsDk D' w' gd dk') (hg : IsLg G' w' gl gd l') (h1 : ∀ b, F' b → ¬ D' b) (h2 : ∀ b, F' b → ¬ G' b) (h3 : ∀ b, D' b → ¬ G' b) (hr : Rep ly p' dk' l' s')
    (hK : ∀ b, allF F D G b → ¬ K b) (hKl : ∀ b, K b → b < w.heap.size) (ht : Turns (allF F D G) (allF F' D' G') w w') (hK' : ∀ b, K' b → K b ∨ (w.heap.size ≤ b ∧ b < w'.heap.size ∧ ¬ allF F' D' G' b)) : PkAt ly K' w' gd gl gp l' s' := by
  refine ⟨p', D', F', G', dk', hpl, hd, hg, h1, h2, h3, hr, fun b hb hk => ?_, fun b hk => ?_⟩
  · rcases hK' b hk with hk | ⟨_, _, hk⟩
    · rcases ht.foot b hb with h | h
      · exact hK b h hk
      · have := hKl b hk; omega
    · exact hk hb
  · rcases hK' b hk with hk | ⟨_, hk, _⟩
    · exact Nat.lt_of_lt_of_le (hKl b hk) ht.size
    · exact hk

theorem PkAt.rep {ly : Ly} {K : Foot} {w : World} {gd gl gp : Nat} {l : Sp.Lg} {s : Sp.R15} (h : PkAt ly K w gd gl gp l s) : ∃ p dk, Rep ly p dk l s := by
  obtain ⟨p, D, F, G, dk, hpl, hd, hg, h1, h2, h3, hr, h4, h5⟩ := h
  exact ⟨p, dk, hr⟩
/-- The blocks made meanwhile are none of theirs. -/
theorem PkAt.more {ly : Ly} {K K' : Foot} {w w' : World} {gd gl gp : Nat} {l : Sp.Lg} {s : Sp.R15} (h : PkAt ly K w gd gl gp l s) (hb : Below w.heap.size w w') (hK : ∀ b, K' b → K b ∨ (w.heap.size ≤ b ∧ b < w'.heap.size)) : PkAt ly K' w' gd gl gp l s := by
  obtain ⟨p, D, F, G, dk, hpl, hd, hg, h1, h2, h3, hr, h4, h5⟩ := h
  refine ⟨p, D, F, G, dk, hpl.below hb, hd.below hb, hg.below hb, h1, h2, h3, hr, fun b hb1 hk => ?_, fun b hk => ?_⟩
  · rcases hK b hk with h' | h'
    · exact h4 b hb1 h'
    · rcases hb1 with e | e | e
      · have := hpl.lt b e; omega
      · have := hd.in_ b e; omega
      · have := hg.in_ b e; omega
  · rcases hK b hk with h' | h'
    · exact Nat.lt_of_lt_of_le (h5 b h') hb.size
    · exact h'.2
theorem PkAt.below {ly : Ly} {K : Foot} {w w' : World} {gd gl gp : Nat} {l : Sp.Lg} {s : Sp.R15} (h : PkAt ly K w gd gl gp l s) (hb : Below w.heap.size w w') : PkAt ly K w' gd gl gp l s := h.more hb (fun _ h => .inl h)
theorem PkAt.lt {ly : Ly} {K : Foot} {w : World} {gd gl gp : Nat} {l : Sp.Lg} {s : Sp.R15} (h : PkAt ly K w gd gl gp l s) : ∀ b, K b → b < w.heap.size := by
  obtain ⟨p, D, F, G, dk, hpl, hd, hg, h1, h2, h3, hr, h4, h5⟩ := h
  exact h5
theorem PkAt.mono {ly : Ly} {K K' : Foot} {w : World} {gd gl gp : Nat} {l : Sp.Lg} {s : Sp.R15} (h : PkAt ly K w gd gl gp l s) (hK : ∀ b, K' b → K b) : PkAt ly K' w gd gl gp l s := h.more (Below.refl _ _) (fun b hb => .inl (hK b hb))
/-- The world turned in blocks of K alone. -/
theorem PkAt.turns {ly : Ly} {K X X' : Foot} {w w' : World} {gd gl gp : Nat} {l : Sp.Lg} {s : Sp.R15} (h : PkAt ly K w gd gl gp l s) (ht : Turns X X' w w') (hX : ∀ b, X b → K b ∨ w.heap.size ≤ b) : PkAt ly K w' gd gl gp l s := by
  obtain ⟨p, D, F, G, dk, hpl, hd, hg, h1, h2, h3, hr, h4, h5⟩ := h
  have hk : ∀ b, b < w.heap.size → allF F D G b → w'.heap[b]? = w.heap[b]? := fun b hb hA => ht.block b hb (fun e => by
    rcases hX b e with e | e
    · exact h4 b hA e
    · omega)
  exact ⟨p, D, F, G, dk, hpl.keep ht.size (fun b hb => hk b (hpl.lt b hb) (.inl hb)), hd.keep (fun b hb => hk b (hd.in_ b hb) (.inr (.inl hb))), hg.keep (fun b hb => hk b (hg.in_ b hb) (.inr (.inr hb))), h1, h2, h3, hr, h4, fun b hb => Nat.lt_of_lt_of_le (h5 b hb) ht.size⟩

theorem Wrote.lg {at_ base : Nat} {p p' : Sp.Pl} {d d' : Sp.Dk} {l l' : Sp.Lg} {q : List Nat} {c : Nat} (h : Wrote at_ base p d l q c p' d' l') : l' = { l with forced := l'.forced } := by
  rcases h with ⟨_, _, _, _, rfl⟩ | ⟨_, _, _, _, _, rfl⟩ | ⟨_, _, _, _, _, rfl⟩
  · rfl
  · rfl
  · unfold Sp.Lg.forceTo; split <;> rfl
theorem TookS.lg {at_ base : Nat} {p p' : Sp.Pl} {d d' : Sp.Dk} {l l' : Sp.Lg} {ids ids' : List Nat} (h : TookS at_ base p d l ids p' ids' d' l') : l' = { l with forced := l'.forced } := by
  rcases h with ⟨_, _, _, _, rfl⟩ | ⟨_, _, _, _, p2, _, _, _, _, hw, _, _⟩
  · rfl
  · exact hw.lg
theorem Rep.lg {ly : Ly} {p : Sp.Pl} {dk : Sp.Dk} {l l' : Sp.Lg} {s : Sp.R15} (h : Rep ly p dk l' s) (e : l' = { l with forced := l'.forced }) : l' = { l with forced := s.forced } := by rw [h.forced]; exact e
theorem Rep.lgs {ly : Ly} {p : Sp.Pl} {dk : Sp.Dk} {l : Sp.Lg} {s : Sp.R15} (h : Rep ly p dk l s) : l = { l with forced := s.forced } := by rw [h.forced]

/-- What Pin answers, and leaves. -/
def PinPk (ly : Ly) (K : Foot) (w : World) (gd gl gp : Nat) (l : Sp.Lg) (s : Sp.R15) (k : Nat) (e : Ending) (w' : World) : Prop :=
  Kept K w w' ∧
  (((s.pin k).2.1 = none ∧ (s.pin k).1 ≠ 0 ∧ e = .returned (.tuple #[zeroPgV, .int .i64 (s.pin k).1]) ∧ PkAt ly K w' gd gl gp { l with forced := (s.pin k).2.2.forced } (s.pin k).2.2) ∨
   ∃ x A cc, (s.pin k).2.1 = some x ∧ (s.pin k).1 = 0 ∧ x.wf ∧ x.may ∧ e = .returned (.tuple #[pgV x A cc, .int .i64 0]) ∧ OkAddr A ∧ RowsAt (fun b => w.heap.size ≤ b ∧ rowK A x.rows.length b) w' A x.rows ∧
     PkAt ly (fun b => K b ∨ rowK A x.rows.length b) w' gd gl gp { l with forced := (s.pin k).2.2.forced } (s.pin k).2.2)

theorem pk_pin {ly : Ly} {K : Foot} {w : World} {gd gl gp : Nat} {l : Sp.Lg} {s : Sp.R15} (h : PkAt ly K w gd gl gp l s) {k : Nat} (k32 : k < 4294967296) (hs : ∀ x ∈ s.L, x.pins < 1000000) :
    Calls Tryz.prog 11 #[ptr gp, u32v k] w (PinPk ly K w gd gl gp l s k) := by
  obtain ⟨p, D, F, G, dk, hpl, hd, hg, hFD, hFG, hDG, hr, hK, hKl⟩ := h
  have hwf := hpl.wf
  have hhas : Sp.hasR s.L k = (p.find k).isSome := by rw [hr.L]; exact Sp.hasR_eq p k
  have hkept : ∀ {w' : World} {X : Foot}, Turns (allF F D G) X w w' → Kept K w w' := fun ht => Kept.of_turns ht (fun b hk => ⟨hKl b hk, fun hF => hK b hF hk⟩)
  cases hf : p.find k with
  | some it =>
    obtain ⟨hit, hk⟩ := Sp.Pl.find_mem hf
    have hsm := hs it.ri (by rw [hr.L]; exact List.mem_map.2 ⟨it, hit, rfl⟩)
    have hsm : it.pins < 1000000 := hsm
    have e : s.pin k = (0, some it.page, { s with L := Sp.pinR s.L k }) := by
      unfold Sp.R15.pin
      rw [if_pos (by rw [hhas, hf]; rfl), hr.L, Sp.getR_eq, hf]
      rfl
    refine (pool_pin_in' hpl k32 hf (by omega)).mono ?_
    rintro e' w' ⟨F', A, c, rfl, hA, hR, h', ht⟩
    unfold PinPk
    rw [e]
    have ht' : Turns (allF F D G) (allF F' D G) w w' := ht.wider (fun b hb => .inl hb) (fun b hb => hb.elim .inr (fun h => .inl (.inr h)))
    have hF'n := ht.foot
    have hin' : ∀ y ∈ ((p.pinUp k).last k).items, 1 ≤ y.page.id ∧ y.page.id ≤ ly.top := fun y hy => by
      have hy' := (Sp.Pl.last_perm (p.pinUp k) k).mem_iff.1 hy
      obtain ⟨x, hx, rfl⟩ := Sp.Pl.upd_mem hy'
      split <;> exact hr.in_ x hx
    refine ⟨hkept ht', .inr ⟨it.page, A, c, rfl, rfl, (hwf.pg it hit).1, (hwf.pg it hit).2, rfl, hA, (rowK_at hR).mono (fun b hb => ⟨hb.1.1, hb.2⟩), ?_⟩⟩
    have hr' : Rep ly ((p.pinUp k).last k) dk l { s with L := Sp.pinR s.L k } := hr.of h'.wf rfl (by rw [hr.L]; exact Sp.pinR_last p k) hin'
    have := hr'.lgs
    rw [← this]
    refine pk_make h' (hd.keep (fun b hb => ht.block b (hd.in_ b hb) (fun e => hFD b e hb))) (hg.keep (fun b hb => ht.block b (hg.in_ b hb) (fun e => hFG b e hb))) (fun b h1 h2 => ?_) (fun b h1 h2 => ?_) hDG hr' hK hKl ht' (fun b hb => hb.imp id (fun hb => ?_))
    · rcases hF'n b h1 with e | e
      · exact hFD b e h2
      · have := hd.in_ b h2; omega
    · rcases hF'n b h1 with e | e
      · exact hFG b e h2
      · have := hg.in_ b h2; omega
    · obtain ⟨h1, h2⟩ := rowK_of hR hb
      refine ⟨h1.1, h2, fun e => ?_⟩
      rcases e with e | e | e
      · exact h1.2 e
      · have := hd.in_ b e; have := h1.1; omega
      · have := hg.in_ b e; have := h1.1; omega
  | none =>
    have hno : Sp.hasR s.L k = false := by rw [hhas, hf]; rfl
    by_cases hk0 : k = 0
    · subst hk0
      have e : s.pin 0 = (60, none, s) := by
        unfold Sp.R15.pin
        rw [if_neg (by rw [hno]; decide), if_neg (by omega), if_pos rfl]
      refine (pool_pin_bad hpl k32 hf (Sp.zeros 512) (by rw [show (Sp.zeros 512).length = 512 from List.length_replicate ..]; omega) (by rw [show (Sp.zeros 512).length = 512 from List.length_replicate ..]; omega) ?_ (fun W hb => ?_)).mono ?_
      · have e : (Sp.zeros 512).take ((Sp.zeros 512).length - 4) = Sp.zeros 508 := by kernel_rfl
        rw [e]; exact Sp.zeros_unsealed
      · have := twin_read (hd.below hb) (by rw [hr.dl.fuse]; decide) hr.dl.loose ly.base 0 (by omega) (by rw [hr.dkt.len]; have := ly.fits; omega)
        rw [Nat.zero_mul, Nat.add_zero, hr.zero] at this
        exact this
      · rintro e' w' ⟨rfl, hb⟩
        unfold PinPk
        rw [e]
        refine ⟨hkept (Turns.of_below hb (allF F D G)), .inl ⟨rfl, (fun h => by cases h), rfl, ?_⟩⟩
        rw [← hr.lgs]
        exact PkAt.below ⟨p, D, F, G, dk, hpl, hd, hg, hFD, hFG, hDG, hr, hK, hKl⟩ hb
    · by_cases hkt : ly.top < k
      · have e : s.pin k = (2, none, s) := by
          unfold Sp.R15.pin
          rw [if_neg (by rw [hno]; decide), if_pos (by rw [hr.top]; exact hkt)]
        refine (pool_pin_far hpl k32 hf (fun W hb => ?_)).mono ?_
        · refine (twin_read_out (hd.below hb) ly.base k k32 (by rw [hr.dkt.len]; have := ly.fits; omega) (by rw [hr.dkt.len]; have := hr.tight; omega)).mono ?_
          rintro e' w' ⟨rfl, rfl⟩
          exact ⟨rfl, Below.refl _ _⟩
        · rintro e' w' ⟨rfl, hb⟩
          unfold PinPk
          rw [e]
          refine ⟨hkept (Turns.of_below hb (allF F D G)), .inl ⟨rfl, (fun h => by cases h), rfl, ?_⟩⟩
          rw [← hr.lgs]
          exact PkAt.below ⟨p, D, F, G, dk, hpl, hd, hg, hFD, hFG, hDG, hr, hK, hKl⟩ hb
      · have hin := hr.inside (n := k) (by omega) (by omega)
        obtain ⟨ok1, ok2, ok3⟩ := hr.ok k (by omega) (by omega)
        obtain ⟨R, fb, cb, mb, v, s0, r, cs, hat⟩ := hpl
        have hM : Mem F D G R w gp gd gl ly.at_ ly.base fb cb mb v s0 r cs p.free (p.items.map (·.page.id)) p dk l := ⟨hat, hd, hg, hFD, hFG, hDG⟩
        have hall : ∀ it ∈ p.items, Sp.inside dk.sure.length ly.at_ ly.base it.page.id := fun it hit => hr.inside (hr.in_ it hit).1 (hr.in_ it hit).2
        unfold Sp.inside at hin
        have HC := pool_pin_out (x := s.disk k) (H := allF F D G) hat ⟨ok1, ok2⟩ (by rw [ok3]; exact hf) hd (by rw [hr.dl.fuse]; decide) hr.dl.loose (by rw [ok3]; exact hin.1) (by rw [ok3]; exact hr.dkt.page k (by omega) (by omega)) hM.lt
          (ZM G gd gl ly.at_ ly.base p dk l (p.items.map (·.page.id))) (Z4M F D G R w gp gd gl ly.at_ ly.base fb cb mb v s0 r (p.items.map (·.page.id)) p dk l)
          (fun W hb hW => by
            have := take_mem (id := (s.disk k).id) hM hr.dl rfl hall (by rw [ok3]; exact hf) W hb
            exact this)
          (fun i p' ids' F' H' w2 hZ => by
            obtain ⟨D', d', l', _, _, _, _, _, _, hS⟩ := hZ
            obtain ⟨_, hr', hi⟩ := hr.room_ok hS
            have := hr'.wf.len; have := hr'.wf.n64
            rw [hi, List.length_map]; omega)
        rw [ok3] at HC
        refine HC.mono ?_
        have hpin : s.pin k = (if s.room.1 ≠ 0 then (s.room.1, none, s.room.2) else (0, some (s.disk k), { s.room.2 with L := Sp.pinR (s.room.2.L ++ [⟨s.disk k, 0, false, 0⟩]) k })) := by
          unfold Sp.R15.pin
          rw [if_neg (by rw [hno]; decide), if_neg (by rw [hr.top]; omega), if_neg hk0]
        rintro e' w' (⟨c4, hc4, rfl, w2, g4, ⟨hE, cs', hM', ht2⟩, hg4, ht⟩ | ⟨i, p', F', H', ids', rest, w2, F3, R3, v3, s3, r3, cs3, A, c, rfl, hA, hR, h', hfree, hnone, ⟨D', d', l', rfl, hD', hG', hFD', hFG', hDG', hS⟩, hF', ht, G0, hG0, ht3⟩)
        · obtain ⟨er, _⟩ := hr.room_err hE
          rw [er, if_pos hc4] at hpin
          unfold PinPk
          rw [hpin]
          have hz := ht2.size
          have htt : Turns (allF F D G) (allF F D G) w w' := by
            refine ⟨ht.os.trans ht2.os, ht.tape.trans ht2.tape, ht.output.trans ht2.output, Nat.le_trans hz ht.size, fun b hb hn => ?_, ht2.foot⟩
            rw [ht.block b (by omega) (fun e => by have e : b = g4 := e; omega)]
            exact ht2.block b hb hn
          refine ⟨hkept htt, .inl ⟨rfl, hc4, rfl, ?_⟩⟩
          rw [← hr.lgs]
          have hk4 : ∀ b, allF F D G b → w'.heap[b]? = w2.heap[b]? := fun b hb => ht.block b (hM'.lt b hb) (fun e => by
            have e : b = g4 := e
            have := hM.lt b hb; omega)
          exact pk_make ⟨R, fb, cb, mb, v, s0, r, cs', hM'.pl.keep ht.size (fun b hb => hk4 b (.inl hb))⟩ (hM'.dk.keep (fun b hb => hk4 b (.inr (.inl hb)))) (hM'.lg.keep (fun b hb => hk4 b (.inr (.inr hb)))) hFD hFG hDG hr hK hKl htt (fun b hb => .inl hb)
        · rw [ok3] at h' hnone
          obtain ⟨e1, hr', hids⟩ := hr.room_ok hS
          rw [if_neg (by rw [e1]; simp)] at hpin
          unfold PinPk
          rw [hpin]
          have hz := ht.size
          have hF3n : ∀ b, F3 b → (F' b ∨ G0 b) ∨ w2.heap.size ≤ b := ht3.foot
          have hn : ∀ b, D' b ∨ G b → ¬ F3 b := fun b hb hf3 => by
            rcases hF3n b hf3 with (e | e) | e
            · rcases hb with hb | hb
              · exact hFD' b e hb
              · exact hFG' b e hb
            · exact (hG0 b e).1 (.inr hb)
            · rcases hb with hb | hb
              · have := hD'.in_ b hb; omega
              · have := hG'.in_ b hb; omega
          have hk3 : ∀ b, D' b ∨ G b → b < w2.heap.size → w'.heap[b]? = w2.heap[b]? := fun b hb hlt => ht3.block b hlt (fun e => by
            rcases e with e | e
            · rcases hb with hb | hb
              · exact hFD' b e hb
              · exact hFG' b e hb
            · exact (hG0 b e).1 (.inr hb))
          have htt : Turns (allF F D G) (allF F3 D' G) w w' := by
            refine ⟨ht3.os.trans ht.os, ht3.tape.trans ht.tape, ht3.output.trans ht.output, Nat.le_trans hz ht3.size, fun b hb hn => ?_, fun b hb => ?_⟩
            · rw [ht3.block b (by omega) (fun e => by
                rcases e with e | e
                · rcases ht.foot b (.inl e) with h | h
                  · exact hn h
                  · omega
                · have := (hG0 b e).2; omega)]
              exact ht.block b hb hn
            · rcases hb with hb | hb
              · rcases hF3n b hb with (e | e) | e
                · exact ht.foot b (.inl e)
                · exact .inr (hG0 b e).2
                · exact .inr (Nat.le_trans hz e)
              · exact ht.foot b (.inr hb)
          have e2 : (((p'.bring (s.disk k) i rest).pinUp k).items.map (·.page.id)) = ids'.filter (fun y => !(y == k)) ++ [k] := by
            have hnot : ids'.filter (fun y => !(y == k)) = ids' := by
              rw [List.filter_eq_self]
              intro a ha
              rw [hids] at ha
              obtain ⟨y, hy, rfl⟩ := List.mem_map.1 ha
              have := Sp.Pl.find_none.1 hnone y hy
              simpa using this
            rw [hnot, hids]
            refine (Sp.Pl.upd_ids (p := p'.bring (s.disk k) i rest) (id := k) (f := fun y => { y with pins := y.pins + 1 }) ⟨fun _ => rfl, fun _ => rfl⟩).trans ?_
            simp [Sp.Pl.bring, ok3]
          have hpl' : IsPl F3 w' gp gd gl ly.at_ ly.base ((p'.bring (s.disk k) i rest).pinUp k) := ⟨R3, fb, cb, mb, v3, s3, r3, cs3, by rw [e2]; exact h'⟩
          have hr3 : Rep ly ((p'.bring (s.disk k) i rest).pinUp k) d' l' { s.room.2 with L := Sp.pinR (s.room.2.L ++ [⟨s.disk k, 0, false, 0⟩]) k } := by
            refine hr'.of h'.wf rfl ?_ (fun y hy => ?_)
            · have hb := Sp.pinUp_bring (p := p') (x := s.disk k) (i := i) (rest := rest) (by rw [ok3]; exact hnone)
              rw [ok3] at hb
              have hnew := Sp.pinR_new (L := s.room.2.L) (x := s.disk k) (by rw [ok3, hr'.L]; exact Sp.ri_ids p' hnone)
              rw [ok3] at hnew
              rw [hb, List.map_append, hnew, hr'.L]
              rfl
            · obtain ⟨x, hx, rfl⟩ := Sp.Pl.upd_mem hy
              have hx' : 1 ≤ x.page.id ∧ x.page.id ≤ ly.top := by
                rcases List.mem_append.1 hx with hx | hx
                · exact hr'.in_ x hx
                · rw [List.mem_singleton.1 hx]
                  show 1 ≤ (s.disk k).id ∧ _
                  rw [ok3]; omega
              split <;> exact hx'
          have elg : l' = { l with forced := ({ s.room.2 with L := Sp.pinR (s.room.2.L ++ [⟨s.disk k, 0, false, 0⟩]) k } : Sp.R15).forced } := hr3.lg (by have := hS.lg; exact this)
          refine ⟨hkept htt, .inr ⟨s.disk k, A, c, rfl, rfl, ok1, ok2, rfl, hA, (rowK_at hR).mono (fun b hb => ⟨hb.1.1, hb.2⟩), ?_⟩⟩
          show PkAt ly _ w' gd gl gp { l with forced := _ } _
          rw [← elg]
          refine pk_make hpl' (hD'.keep (fun b hb => hk3 b (.inl hb) (hD'.in_ b hb))) (hG'.keep (fun b hb => hk3 b (.inr hb) (hG'.in_ b hb))) (fun b h1 h2 => hn b (.inl h2) h1) (fun b h1 h2 => hn b (.inr h2) h1) hDG' hr3 hK hKl htt (fun b hb => hb.imp id (fun hb => ?_))
          obtain ⟨h1, h2⟩ := rowK_of hR hb
          refine ⟨h1.1, h2, fun e => ?_⟩
          rcases e with e | e | e
          · exact h1.2.1 e
          · have := hD'.in_ b e; have := h1.2.2; omega
          · have := hG'.in_ b e; have := h1.2.2; omega
end Go.Proofs.YtndglfiepeefdaaGreat

/- Evict, Unpin of a pool with its disk and its log. -/
namespace Go.Proofs.YtndglfiepeefdaaGreat
open Go.RowKit Go.Conc

/-- What a call that answers a number answers, and leaves. -/
def CallPk (ly : Ly) (K : Foot) (w : World) (gd gl gp : Nat) (l : Sp.Lg) (r : Nat × Sp.R15) (e : Ending) (w' : World) : Prop :=
  Kept K w w' ∧ e = .returned (.int .i64 r.1) ∧ PkAt ly K w' gd gl gp { l with forced := r.2.forced } r.2

theorem pk_same {ly : Ly} {K : Foot} {w w' : World} {gd gl gp : Nat} {l : Sp.Lg} {s : Sp.R15} (h : PkAt ly K w gd gl gp l s) (hb : Below w.heap.size w w') (c : Nat) : CallPk ly K w gd gl gp l (c, s) (.returned (.int .i64 c)) w' := by
  refine ⟨Kept.of_below hb h.lt, rfl, ?_⟩
  obtain ⟨p, dk, hr⟩ := h.rep
  show PkAt ly K w' gd gl gp { l with forced := s.forced } s
  rw [← hr.lgs]
  exact h.below hb

/-- The pool alone has turned. -/
theorem pk_pool {ly : Ly} {K : Foot} {w w' : World} {gd gl gp : Nat} {l : Sp.Lg} {s' : Sp.R15} {p' : Sp.Pl} {D F G F' : Foot} {dk : Sp.Dk} (hd : IsDk D w gd dk) (hg : IsLg G w gl gd l) (hFD : ∀ b, F b → ¬ D b) (hFG : ∀ b, F b → ¬ G b) (hDG : ∀ b, D b → ¬ G b) (hK : ∀ b, allF F D G b → ¬ K b) (hKl : ∀ b, K b → b < w.heap.size)
    (h' : IsPl F' w' gp gd gl ly.at_ ly.base p') (ht : Turns F F' w w') (hr' : Rep ly p' dk l s') (c : Nat) : CallPk ly K w gd gl gp l (c, s') (.returned (.int .i64 c)) w' := by
  have ht' : Turns (allF F D G) (allF F' D G) w w' := ht.wider (fun b hb => .inl hb) (fun b hb => hb.elim .inr (fun h => .inl (.inr h)))
  refine ⟨Kept.of_turns ht' (fun b hk => ⟨hKl b hk, fun hF => hK b hF hk⟩), rfl, ?_⟩
  show PkAt ly K w' gd gl gp { l with forced := s'.forced } s'
  rw [← hr'.lgs]
  refine pk_make h' (hd.keep (fun b hb => ht.block b (hd.in_ b hb) (fun e => hFD b e hb))) (hg.keep (fun b hb => ht.block b (hg.in_ b hb) (fun e => hFG b e hb))) (fun b h1 h2 => ?_) (fun b h1 h2 => ?_) hDG hr' hK hKl ht' (fun b hb => .inl hb)
  · rcases ht.foot b h1 with e | e
    · exact hFD b e h2
    · have := hd.in_ b h2; omega
  · rcases ht.foot b h1 with e | e
    · exact hFG b e h2
    · have := hg.in_ b h2; omega

set_option maxRecDepth 100000 in
set_option maxHeartbeats 1000000 in
theorem pool_unpin_no {F : Foot} {w : World} {gp gd gl at_ base : Nat} {p : Sp.Pl} (h : IsPl F w gp gd gl at_ base p) {id : Nat} (hid : id < 4294967296) (hf : ∀ it, p.find id = some it → it.pins = 0) :
    Calls Tryz.prog 17 #[ptr gp, u32v id] w fun e w' => e = .returned (.int .i64 3) ∧ Below w.heap.size w w' := by
  obtain ⟨R, fb, cb, mb, v, s, r, cs, h⟩ := h
  obtain ⟨c0, c1, c2, c3, c4, c5, c6, c7⟩ := h.cells
  have HM := Lib.hid (pool_made c6)
  cases hfi : p.find id with
  | none =>
    have hl := h.look_out hid hfi
    clear h c0 c1 c2 c3 c5 c7 hfi hf
    go_enter Tryz.func17, Tryz.ntmps17
    go_wp2_with fail
    refine HM.out.mono ?_
    rintro e w1 ⟨rfl, hw⟩
    subst w1
    go_wp2_with fail
    go_ret
    exact ⟨rfl, Below.refl _ _⟩
  | some it =>
    have hl := h.look_in hid hfi
    have hp0 := hf it hfi
    have hit := (Sp.Pl.find_mem hfi).1
    have hlt := h.wf.idx_lt hit
    have cp := h.pins hit
    rw [hp0] at cp
    have hn := h.wf.n64
    clear h c0 c1 c2 c3 c5 c7 hfi hf hp0 hit
    go_enter Tryz.func17, Tryz.ntmps17
    go_wp2_with fail
    refine HM.out.mono ?_
    rintro e w1 ⟨rfl, hw⟩
    subst w1
    go_wp2_with fail
    go_ret
    exact ⟨rfl, Below.refl _ _⟩

theorem pk_unpin {ly : Ly} {K : Foot} {w : World} {gd gl gp : Nat} {l : Sp.Lg} {s : Sp.R15} (h : PkAt ly K w gd gl gp l s) {k : Nat} (k32 : k < 4294967296) :
    Calls Tryz.prog 17 #[ptr gp, u32v k] w (CallPk ly K w gd gl gp l (s.unpin k)) := by
  have H := h
  obtain ⟨p, D, F, G, dk, hpl, hd, hg, hFD, hFG, hDG, hr, hK, hKl⟩ := h
  have hget : Sp.getR? s.L k = (p.find k).map Sp.It.ri := by rw [hr.L]; exact Sp.getR_eq p k
  by_cases hno : ∀ it, p.find k = some it → it.pins = 0
  · have e : s.unpin k = (3, s) := by
      unfold Sp.R15.unpin
      rw [hget]
      cases hf : p.find k with
      | none => rfl
      | some it => simp [Sp.It.ri, hno it hf]
    rw [e]
    refine (pool_unpin_no hpl k32 hno).mono ?_
    rintro e' w' ⟨rfl, hb⟩
    exact pk_same H hb 3
  · cases hf : p.find k with
    | none => exact absurd (fun it h => by rw [hf] at h; cases h) hno
    | some it =>
      have hp : 1 ≤ it.pins := by
        rcases Nat.eq_zero_or_pos it.pins with e | e
        · exact absurd (fun it' h => by rw [hf] at h; injection h with h; rw [← h]; exact e) hno
        · exact e
      have e : s.unpin k = (0, { s with L := Sp.upR s.L k (fun y => { y with pins := y.pins - 1 }) }) := by
        unfold Sp.R15.unpin
        rw [hget, hf]
        simp only [Option.map_some]
        rw [if_neg (by show ¬ it.pins = 0; omega)]
      rw [e]
      refine (pool_unpin hpl k32 hf hp).mono ?_
      rintro e' w' ⟨rfl, h', ht⟩
      refine pk_pool hd hg hFD hFG hDG hK hKl h' ht (hr.of h'.wf rfl ?_ (fun y hy => ?_)) 0
      · rw [hr.L]
        exact Sp.upR_eq p k _ _ (fun _ => rfl)
      · obtain ⟨x, hx, rfl⟩ := Sp.Pl.upd_mem hy
        have := hr.in_ x hx
        split <;> exact this

set_option maxRecDepth 100000 in
set_option maxHeartbeats 1000000 in
theorem pool_evict_no {F R : Foot} {w : World} {gp gd gl at_ base fb cb mb s r : Nat} {v : Value} {cs : Array Value} {fl ids : List Nat} {p : Sp.Pl} (h : IsPlAt F R w gp gd gl at_ base fb cb mb v s r cs fl ids p) {id : Nat} (hid : id < 4294967296) (c : Nat)
    (hf : (p.find id = none ∧ c = 3) ∨ ∃ it, p.find id = some it ∧ 0 < it.pins ∧ c = 9) :
    Calls Tryz.prog 19 #[ptr gp, u32v id] w fun e w' => e = .returned (.int .i64 c) ∧ Below w.heap.size w w' := by
  obtain ⟨c0, c1, c2, c3, c4, c5, c6, c7⟩ := h.cells
  have HM := Lib.hid (pool_made c6)
  rcases hf with ⟨hfi, rfl⟩ | ⟨it, hfi, hp, rfl⟩
  · have hl := h.look_out hid hfi
    clear h c0 c1 c2 c3 c5 c7 hfi
    go_enter Tryz.func19, Tryz.ntmps19
    go_wp2_with fail
    refine HM.out.mono ?_
    rintro e w1 ⟨rfl, hw⟩
    subst w1
    go_wp2_with fail
    go_ret
    exact ⟨rfl, Below.refl _ _⟩
  · have hl := h.look_in hid hfi
    have hit := (Sp.Pl.find_mem hfi).1
    have hlt := h.wf.idx_lt hit
    have cp := h.pins hit
    have hn := h.wf.n64
    have dp : decide (0 < it.pins) = true := by rw [decide_eq_true_iff]; exact hp
    clear h c0 c1 c2 c3 c5 c7 hfi hit
    go_enter Tryz.func19, Tryz.ntmps19
    go_wp2_with fail
    refine HM.out.mono ?_
    rintro e w1 ⟨rfl, hw⟩
    subst w1
    go_wp2_with fail
    go_ret
    exact ⟨rfl, Below.refl _ _⟩

set_option maxRecDepth 100000 in
set_option maxHeartbeats 1000000 in
theorem pool_evict_go {F R : Foot} {w : World} {gp gd gl at_ base fb cb mb s r : Nat} {v : Value} {cs : Array Value} {fl ids : List Nat} {p : Sp.Pl} (h : IsPlAt F R w gp gd gl at_ base fb cb mb v s r cs fl ids p) {id : Nat} (hid : id < 4294967296) {it : Sp.It} (hfi : p.find id = some it) (hp : it.pins = 0)
    {Q : Nat → World → Prop} (hD : Calls Tryz.prog 67 #[ptr gp, u32v id] w fun e w' => ∃ c : Nat, e = .returned (.int .i64 c) ∧ Q c w') :
    Calls Tryz.prog 19 #[ptr gp, u32v id] w fun e w' => ∃ c : Nat, e = .returned (.int .i64 c) ∧ Q c w' := by
  obtain ⟨c0, c1, c2, c3, c4, c5, c6, c7⟩ := h.cells
  have HM := Lib.hid (pool_made c6)
  have HD := Lib.hid hD
  have hl := h.look_in hid hfi
  have hit := (Sp.Pl.find_mem hfi).1
  have hlt := h.wf.idx_lt hit
  have cp := h.pins hit
  have hn := h.wf.n64
  rw [hp] at cp
  clear h c0 c1 c2 c3 c5 c7 hfi hit hp hD
  go_enter Tryz.func19, Tryz.ntmps19
  go_wp2_with fail
  refine HM.out.mono ?_
  rintro e w1 ⟨rfl, hw⟩
  subst w1
  go_wp2_with fail
  refine HD.out.mono ?_
  rintro e w1 ⟨c, rfl, hq⟩
  have HQ := Lib.hid hq
  clear hq
  go_wp2_with fail
  go_ret
  exact ⟨c, rfl, HQ.out⟩

theorem pk_evict {ly : Ly} {K : Foot} {w : World} {gd gl gp : Nat} {l : Sp.Lg} {s : Sp.R15} (h : PkAt ly K w gd gl gp l s) {k : Nat} (k32 : k < 4294967296) :
    Calls Tryz.prog 19 #[ptr gp, u32v k] w (CallPk ly K w gd gl gp l (s.evict k)) := by
  have H := h
  obtain ⟨p, D, F, G, dk, hpl, hd, hg, hFD, hFG, hDG, hr, hK, hKl⟩ := h
  have hget : Sp.getR? s.L k = (p.find k).map Sp.It.ri := by rw [hr.L]; exact Sp.getR_eq p k
  obtain ⟨R, fb, cb, mb, v, s0, r, cs, hat⟩ := hpl
  cases hf : p.find k with
  | none =>
    have e : s.evict k = (3, s) := by unfold Sp.R15.evict; rw [hget, hf]; rfl
    rw [e]
    refine (pool_evict_no hat k32 3 (.inl ⟨hf, rfl⟩)).mono ?_
    rintro e' w' ⟨rfl, hb⟩
    exact pk_same H hb 3
  | some it =>
    rcases Nat.eq_zero_or_pos it.pins with hp | hp
    · obtain ⟨hit, rfl⟩ := Sp.Pl.find_mem hf
      have e : s.evict it.page.id = s.drop it.page.id := by
        unfold Sp.R15.evict; rw [hget, hf]
        simp only [Option.map_some]
        rw [if_neg (by show ¬ 0 < it.pins; omega)]
      rw [e]
      have hM : Mem F D G R w gp gd gl ly.at_ ly.base fb cb mb v s0 r cs p.free (p.items.map (·.page.id)) p dk l := ⟨hat, hd, hg, hFD, hFG, hDG⟩
      have HD := drops_mem hM hr.dl hit (hr.inside (hr.in_ it hit).1 (hr.in_ it hit).2)
      refine (pool_evict_go (Q := fun c w' => CallPk ly K w gd gl gp l (s.drop it.page.id) (.returned (.int .i64 c)) w') hat k32 hf hp (HD.mono ?_)).mono ?_
      · rintro e' w' ⟨c, p2, d', l', rfl, hW, ⟨hc, cs', hM', ht⟩ | ⟨rfl, F', D', v', cs', hM', ht⟩⟩
        · rw [(hr.drops hit hW).1 hc]
          refine ⟨c, rfl, Kept.of_turns ht (fun b hk => ⟨hKl b hk, fun hF => hK b hF hk⟩), rfl, ?_⟩
          show PkAt ly K w' gd gl gp { l with forced := s.forced } s
          rw [← hr.lgs]
          exact pk_make ⟨R, fb, cb, mb, v, s0, r, cs', hM'.pl⟩ hM'.dk hM'.lg hFD hFG hDG hr hK hKl ht (fun b hb => .inl hb)
        · obtain ⟨e1, hr'⟩ := (hr.drops hit hW).2 rfl
          refine ⟨0, rfl, Kept.of_turns ht (fun b hk => ⟨hKl b hk, fun hF => hK b hF hk⟩), by rw [e1], ?_⟩
          have elg : l' = { l with forced := (s.drop it.page.id).2.forced } := hr'.lg hW.lg
          rw [← elg]
          have e2 : (p.drop it.page.id it.idx).items.map (·.page.id) = (p.items.map (·.page.id)).filter (fun x => !(x == it.page.id)) := by
            simp only [Sp.Pl.drop]
            rw [List.filter_map]
            rfl
          have hpl' := hM'.pl
          rw [← e2] at hpl'
          exact pk_make ⟨R, fb, cb, mb, v', s0 + 1, r, cs', hpl'⟩ hM'.dk hM'.lg hM'.FD hM'.FG hM'.DG hr' hK hKl ht (fun b hb => .inl hb)
      · rintro e' w' ⟨c, rfl, hq⟩
        exact hq
    · have e : s.evict k = (9, s) := by
        unfold Sp.R15.evict; rw [hget, hf]
        simp only [Option.map_some]
        rw [if_pos (by show 0 < it.pins; omega)]
      rw [e]
      refine (pool_evict_no hat k32 9 (.inr ⟨it, hf, hp, rfl⟩)).mono ?_
      rintro e' w' ⟨rfl, hb⟩
      exact pk_same H hb 9
end Go.Proofs.YtndglfiepeefdaaGreat

/- Put of a pool with its disk and its log. -/
namespace Go.Proofs.YtndglfiepeefdaaGreat
open Go.RowKit Go.Conc

theorem pg_size : (Tryz.prog.info? 32).map (·.size) = some 6 := by kernel_rfl
theorem part_in {cs : Array Value} {o : Nat} {l : List Value} (hi : o + l.length ≤ cs.size) {j : Nat} (hj : j < l.length) : (partRow cs o l)[o + j]? = l[j]? := by
  unfold partRow
  rw [List.getElem?_toArray, List.append_assoc, List.getElem?_append_right (by simp; omega), List.getElem?_append_left (by simp; omega)]
  congr 1
  simp
  omega
theorem part_out {cs : Array Value} {o : Nat} {l : List Value} (hi : o + l.length ≤ cs.size) {k : Nat} (hk : k < o ∨ o + l.length ≤ k) : (partRow cs o l)[k]? = cs[k]? := by
  unfold partRow
  rw [List.getElem?_toArray, List.append_assoc]
  rcases hk with hk | hk
  · rw [List.getElem?_append_left (by simp; omega), List.getElem?_take, if_pos hk, Array.getElem?_toList]
  · rw [List.getElem?_append_right (by simp; omega), List.getElem?_append_right (by simp; omega), List.getElem?_drop, Array.getElem?_toList]
    congr 1
    simp
    omega
theorem part_size {cs : Array Value} {o : Nat} {l : List Value} (hi : o + l.length ≤ cs.size) : (partRow cs o l).size = cs.size := by simp [partRow]; omega

/-- More blocks, that are new. -/
theorem IsPlAt.more {F R G0 : Foot} {w : World} {gp gd gl at_ base fb cb mb s r : Nat} {v : Value} {cs : Array Value} {fl ids : List Nat} {p : Sp.Pl} (h : IsPlAt F R w gp gd gl at_ base fb cb mb v s r cs fl ids p) (hG : ∀ b, G0 b → ¬ F b ∧ b < w.heap.size) :
    IsPlAt (fun b => F b ∨ G0 b) (fun b => R b ∨ G0 b) w gp gd gl at_ base fb cb mb v s r cs fl ids p := by
  obtain ⟨f1, f2, f3, f4, f5⟩ := h.foot
  refine ⟨h.wf, h.blk, ⟨h.fr.blk, h.fr.size, fun it hit => ?_, h.fr.free⟩, h.chan, h.map, h.row, ⟨.inl f1, .inl f2, .inl f3, .inl f4, fun b hb => .inl (f5 b hb)⟩, fun b hb => ?_, fun b hb => ?_⟩
  · obtain ⟨A, c, hA, hR, hc⟩ := h.fr.item it hit
    exact ⟨A, c, hA, hR.mono (fun b hb => .inl hb), hc⟩
  · rcases hb with hb | hb
    · obtain ⟨a1, rest⟩ := h.rows b hb
      exact ⟨.inl a1, rest⟩
    · have hn := (hG b hb).1
      exact ⟨.inr hb, fun e => hn (e ▸ f1), fun e => hn (e ▸ f2), fun e => hn (e ▸ f3), fun e => hn (e ▸ f4), fun e => hn (f5 b e)⟩
  · exact hb.elim (h.lt b) (fun hb => (hG b hb).2)

namespace Sp
/-- What Put makes of a frame. -/
def It.put (x : Pg) (y : It) : It := if y.page.id = x.id then (if y.dirty then { y with page := x } else { y with page := x, dirty := true, from_ := x.lsn }) else y
theorem It.put_tame (x : Pg) : Tame (It.put x) := by
  constructor
  · intro y
    unfold It.put
    split
    · rename_i h
      split <;> exact h.symm
    · rfl
  · intro y
    unfold It.put
    split
    · split <;> rfl
    · rfl
end Sp

def PutPost (F : Foot) (w : World) (gp gd gl at_ base fb cb mb : Nat) (v : Value) (s r : Nat) (fl ids : List Nat) (p : Sp.Pl) (x : Sp.Pg) (e : Ending) (w' : World) : Prop :=
  e = .returned (.int .i64 0) ∧ ∃ (F' R' : Foot) (cs' : Array Value), IsPlAt F' R' w' gp gd gl at_ base fb cb mb v s r cs' fl ids (p.upd x.id (Sp.It.put x)) ∧ Turns F F' w w'

set_option maxRecDepth 100000 in
set_option maxHeartbeats 4000000 in
theorem pool_put {F R G : Foot} {w : World} {gp gd gl at_ base fb cb mb s r : Nat} {v : Value} {cs : Array Value} {fl ids : List Nat} {p : Sp.Pl} (h : IsPlAt F R w gp gd gl at_ base fb cb mb v s r cs fl ids p)
    {x : Sp.Pg} (hx : x.wf ∧ x.may) {A : Option Addr} {c : Nat} (hA : OkAddr A) (hR : RowsAt G w A x.rows) {it : Sp.It} (hf : p.find x.id = some it) (hp : 1 ≤ it.pins) :
    Calls Tryz.prog 16 #[ptr gp, pgV x A c] w (PutPost F w gp gd gl at_ base fb cb mb v s r fl ids p x) := by
  have hfit := hx.2.2.2.2.2
  have hid : x.id < 4294967296 := hx.1.2.2.1
  obtain ⟨hit, hide⟩ := Sp.Pl.find_mem hf
  have hba := (Below.refl w.heap.size w).alloc (Nat.le_refl _) (.cells (pgCs x A c) 32)
  have h1 := h.keep hba.size (fun b hb => hba.block b (h.lt b hb))
  have hB1 := Blk.new w 32 (pgCs x A c)
  have hR1 := Reads.below hR hba
  have HM := Lib.hid (pool_made (w := w.alloc (.cells (pgCs x A c) 32)) h1.cells.2.2.2.2.2.2.1)
  have HMA := Lib.hid (page_may (w := w.alloc (.cells (pgCs x A c) 32)) (c := c) hR1 (by omega) (by omega))
  rw [(mayB_iff x).2 hx.2] at HMA
  have HF := Lib.hid h.lt
  have hFl := h.lt
  have hH := Lib.hid h
  clear h hR
  go_enter Tryz.func16, Tryz.ntmps16
  go_wp2_with fail
  obtain ⟨w1, hw1⟩ : ∃ w1, w1 = w.alloc (.cells (pgCs x A c) 32) := ⟨_, rfl⟩
  rw [← hw1] at h1 hB1 hR1 HM HMA hba ⊢
  obtain ⟨g3, hg3⟩ : ∃ g, g = w.heap.size := ⟨_, rfl⟩
  rw [← hg3] at hB1 ⊢
  have hg3l : w.heap.size ≤ g3 := by omega
  clear hw1 hg3
  have z0 := hB1.cell 0
  have z1 := hB1.cell 1
  have z2 := hB1.cell 2
  have z3 := hB1.cell 3
  have z4 := hB1.cell 4
  have z5 := hB1.cell 5
  simp only [zGA, zGB, zGC] at z0 z1 z2 z3 z4 z5
  refine HM.out.mono ?_
  rintro e w2 ⟨rfl, hw⟩
  subst w2
  go_wp2_with fail
  refine HMA.out.mono ?_
  rintro e w2 ⟨rfl, hb2⟩
  have hb02 := hba.trans (hb2.mono hba.size)
  have h2 := h1.keep hb2.size (fun b hb => hb2.block b (h1.lt b hb))
  have hB2 := hB1.below hb2 hB1.lt
  have hR2 := Reads.below hR1 hb2
  have hl2 := h2.look_in hid hf
  have c6 := h2.cells.2.2.2.2.2.2.1
  have z2 := hB2.cell 2
  simp only [zGA, zGB, zGC] at z2
  have HH2 := Lib.hid h2
  clear z0 z1 z3 z4 z5 h1 hB1 hR1 HM HMA h2
  have hS := Lib.hid (show w2.drew.cell? ⟨gp, 6, none⟩ = some (.map (some mb)) ∧ w2.drew.cell? ⟨g3, 2, none⟩ = some (u32v x.id) ∧ (Instr.lookup 106 (.map (some mb)) (u32v x.id) true).run Tryz.prog w2.drew = .ok (.tuple #[.int .i64 it.idx, .bool true]) w2.drew from
    ⟨c6, z2, (HH2.out.keep (w' := w2.drew) (Nat.le_refl _) (fun _ _ => rfl)).look_in hid hf⟩)
  clear hl2 c6 z2
  go_wp2_with fail
  refine R_begin (fun W => W.cell? ⟨gp, 6, none⟩ = some (.map (some mb)) ∧ W.cell? ⟨g3, 2, none⟩ = some (u32v x.id) ∧ (Instr.lookup 106 (.map (some mb)) (u32v x.id) true).run Tryz.prog W = .ok (.tuple #[.int .i64 it.idx, .bool true]) W) (fun _ => false) rfl ?_
  refine R_tk 0 15 hS.out ?_
  refine R_tk 1 16 hS.out ?_
  refine R_tk 2 17 hS.out ?_
  refine R_tk 3 18 hS.out ?_
  simp only [zSA, zSB, zSC]
  refine R_tk 4 19 hS.out ?_
  refine R_tk 5 20 hS.out ?_
  simp only [zSA, zSB, zSC]
  refine R_tk 6 21 hS.out ?_
  simp only [zSA, zSB, zSC]
  refine R_tk 7 14 hS.out ?_
  simp only [zSA, zSB, zSC]
  refine R_tk 8 22 hS.out ?_
  simp only [zSA, zSB, zSC]
  refine R_tk 9 23 hS.out ?_
  simp only [zSA, zSB, zSC]
  refine R_tk 10 5 hS.out ?_
  simp only [zSA, zSB, zSC]
  refine R_tk 11 6 hS.out ?_
  simp only [zSA, zSB, zSC]
  refine R_done (by kernel_rfl) ?_ _
  rename_i K9 hK9
  refine hK9 _ _ ?_
  clear hK9 hS
  have h3 := HH2.out.keep (w' := w2.drew) (Nat.le_refl _) (fun _ _ => rfl)
  have hB3 := hB2.drew
  have hb03 : Below w.heap.size w w2.drew := ⟨hb02.os, hb02.tape, hb02.output, hb02.size, hb02.block⟩
  have hR3 : RowsAt G w2.drew A x.rows := Reads.below hR2 (Below.refl _ w2).drew
  obtain ⟨w3, hw3⟩ : ∃ w3, w3 = w2.drew := ⟨_, rfl⟩
  rw [← hw3] at h3 hB3 hb03 hR3 ⊢
  clear hw3 hb02 hB2 hR2 HH2 hb2 hba
  obtain ⟨c0, c1, c2, c3, c4, c5, c6, c7⟩ := h3.cells
  have cp := h3.pins hit
  have hlt9 := h3.wf.idx_lt hit
  have hn64 := h3.wf.n64
  have hcs := h3.fr.size
  have hp0 : ((it.pins : Int) == 0) = false := by simp; omega
  have hp1 : (it.pins == 0) = false := by simp; omega
  have hp2 : ¬ it.pins = 0 := by omega
  have z0 := hB3.cell 0
  have z1 := hB3.cell 1
  have z2 := hB3.cell 2
  have z3 := hB3.cell 3
  have z4 := hB3.cell 4
  have z5 := hB3.cell 5
  simp only [zGA, zGB, zGC] at z0 z1 z2 z3 z4 z5
  have HCP := Lib.hid (pool_copied (c := c) hA hR3 (by omega))
  have H3 := Lib.hid h3
  clear c0 c1 c2 c3 c5 c6 c7 h3 hR3
  go_wp2_with fail
  refine HCP.out.mono ?_
  rintro e w4 ⟨A', c', rfl, hA', hR', hb4⟩
  have hA'A := Lib.hid hA'
  have hA'R := Lib.hid hR'
  clear hA' hR'
  have h4 := H3.out.keep hb4.size (fun b hb => hb4.block b (H3.out.lt b hb))
  have hB4 := hB3.below hb4 hB3.lt
  have hb04 := hb03.trans (hb4.mono hb03.size)
  have hFB := h4.fr.blk
  have hST := run_storeVar_part (P := Tryz.prog) w4 fb (it.idx * 9) 110 32 cs (pgCs x A' c') hFB pg_size (by rw [hcs]; show it.idx * 9 + 6 ≤ p.n * 9; omega) (by simp [pgCs, Value.oneCell'])
  obtain ⟨A0, c0, _, _, hc0⟩ := h4.fr.item it hit
  have hfit6 : it.idx * 9 + ([.int .u8 x.kind, .int .u8 x.level, .int .u32 x.id, .int .u64 x.lsn, .int .u32 x.next, .slice A' x.rows.length c'] : List Value).length ≤ cs.size := by rw [hcs]; show it.idx * 9 + 6 ≤ p.n * 9; omega
  have hB5 := hFB.setRow (partRow cs (it.idx * 9) [.int .u8 x.kind, .int .u8 x.level, .int .u32 x.id, .int .u64 x.lsn, .int .u32 x.next, .slice A' x.rows.length c'])
  have k7 := (hB5.cell (it.idx * 9 + 7)).trans ((part_out hfit6 (.inr (by show it.idx * 9 + 6 ≤ _; omega))).trans (hc0 7 (by omega)))
  have k8 := (hB5.cell (it.idx * 9 + 8)).trans ((part_out hfit6 (.inr (by show it.idx * 9 + 6 ≤ _; omega))).trans (hc0 8 (by omega)))
  have k6 := (hB5.cell (it.idx * 9 + 6)).trans ((part_out hfit6 (.inr (by show it.idx * 9 + 6 ≤ _; omega))).trans (hc0 6 (by omega)))
  simp only [frCells, List.getElem?_cons_succ, List.getElem?_cons_zero] at k6 k7 k8
  have hFfb := h4.foot.2.1
  have hg3fb : g3 ≠ fb := fun e => by have := hFl fb hFfb; omega
  have y7 := hB5.frozen (it.idx * 9 + 7)
  have y8 := hB5.frozen (it.idx * 9 + 8)
  have z3 := (hB4.keep (heap_setRow_other w4 fb g3 (partRow cs (it.idx * 9) [.int .u8 x.kind, .int .u8 x.level, .int .u32 x.id, .int .u64 x.lsn, .int .u32 x.next, .slice A' x.rows.length c']) hg3fb)).cell 3
  simp only [zGA, zGB, zGC] at z3
  have hk5 : ∀ b, b ≠ fb → (w4.setRow fb (partRow cs (it.idx * 9) [.int .u8 x.kind, .int .u8 x.level, .int .u32 x.id, .int .u64 x.lsn, .int .u32 x.next, .slice A' x.rows.length c'])).heap[b]? = w4.heap[b]? := fun b hb => heap_setRow_other w4 fb b _ hb
  have ht5 := (Turns.of_below hb04 F).setRow (g := fb) (.inl hFfb) (partRow cs (it.idx * 9) [.int .u8 x.kind, .int .u8 x.level, .int .u32 x.id, .int .u64 x.lsn, .int .u32 x.next, .slice A' x.rows.length c'])
  have hs5 : w4.heap.size ≤ (w4.setRow fb (partRow cs (it.idx * 9) [.int .u8 x.kind, .int .u8 x.level, .int .u32 x.id, .int .u64 x.lsn, .int .u32 x.next, .slice A' x.rows.length c'])).heap.size := by simp [World.setRow]
  clear z0 z1 z2 z4 z5 HCP cp c4
  change (storeVar 32 ⟨fb, it.idx * 9, none⟩ (.agg (pgCs x A' c'))).run Tryz.prog w4 = .ok () (w4.setRow fb (partRow cs (it.idx * 9) [.int .u8 x.kind, .int .u8 x.level, .int .u32 x.id, .int .u64 x.lsn, .int .u32 x.next, .slice A' x.rows.length c'])) at hST
  generalize hW5 : w4.setRow fb (partRow cs (it.idx * 9) [.int .u8 x.kind, .int .u8 x.level, .int .u32 x.id, .int .u64 x.lsn, .int .u32 x.next, .slice A' x.rows.length c']) = w5 at *
  have hpost : Hid (∀ (cs' : Array Value) (w' : World) (it' : Sp.It), it' = Sp.It.put x it → cs'.size = cs.size → (∀ j, j < 9 → cs'[it.idx * 9 + j]? = (frCells it' A' c')[j]?) → (∀ k, (k < it.idx * 9 ∨ it.idx * 9 + 9 ≤ k) → cs'[k]? = cs[k]?) → Blk w' fb 110 cs' → (∀ b, b ≠ fb → w'.heap[b]? = w4.heap[b]?) → w4.heap.size ≤ w'.heap.size → Turns F F w w' →
      PutPost F w gp gd gl at_ base fb cb mb v s r fl ids p x (.returned (.int .i64 0)) w') := by
    intro cs' w' it' hit' hsz hcs' hrest hblk hkk hss htt
    have hG0 : ∀ b, (w3.heap.size ≤ b ∧ rowK A' x.rows.length b) → ¬ F b ∧ b < w4.heap.size := fun b hb => by
      obtain ⟨h1, h2⟩ := rowK_of hA'R.out hb.2
      exact ⟨fun e => by have := hFl b e; have := hb03.size; omega, h2⟩
    have hm := h4.more (G0 := fun b => w3.heap.size ≤ b ∧ rowK A' x.rows.length b) hG0
    have hpgx : (Sp.It.put x it).page = x := by
      unfold Sp.It.put
      rw [if_pos hide]
      split <;> rfl
    have hFw3 : ∀ b, F b → b < w3.heap.size := fun b hb => Nat.lt_of_lt_of_le (hFl b hb) hb03.size
    refine ⟨rfl, fun b => F b ∨ (w3.heap.size ≤ b ∧ rowK A' x.rows.length b), fun b => R b ∨ (w3.heap.size ≤ b ∧ rowK A' x.rows.length b), cs', ?_, ?_⟩
    · have := hm.upd (f := Sp.It.put x) (w' := w') (cs' := cs') (Sp.It.put_tame x) hit ?_ hss (fun b _ hb => hkk b hb) hblk ⟨hsz, hrest⟩ ⟨A', c', hA'A.out, ?_, ?_⟩
      · rw [hide] at this
        exact this
      · have hsm := h4.wf.small it hit
        refine ⟨by rw [hpgx]; exact hx.1, by rw [hpgx]; exact hx.2, ?_, ?_⟩
        · unfold Sp.It.put
          rw [if_pos hide]
          split <;> exact hsm.1
        · unfold Sp.It.put
          rw [if_pos hide]
          split
          · exact hsm.2
          · exact hx.1.2.2.2.1
      · rw [hpgx]
        exact ((rowK_at hA'R.out).keep hss (fun b hb => hkk b (fun e => by
          have := hFw3 fb hFfb
          have h2 : w3.heap.size ≤ b := hb.1
          omega))).mono (fun b hb => .inr hb)
      · rw [← hit']
        exact hcs'
    · exact ⟨htt.os, htt.tape, htt.output, htt.size, htt.block, fun b hb => hb.elim .inl (fun hb => .inr (Nat.le_trans hb03.size hb.1))⟩
  have hin6 : ∀ j, j < 6 → (partRow cs (it.idx * 9) [.int .u8 x.kind, .int .u8 x.level, .int .u32 x.id, .int .u64 x.lsn, .int .u32 x.next, .slice A' x.rows.length c'])[it.idx * 9 + j]? = ([.int .u8 x.kind, .int .u8 x.level, .int .u32 x.id, .int .u64 x.lsn, .int .u32 x.next, .slice A' x.rows.length c'] : List Value)[j]? := fun j hj => part_in hfit6 hj
  have hout6 : ∀ k, (k < it.idx * 9 ∨ it.idx * 9 + 6 ≤ k) → (partRow cs (it.idx * 9) [.int .u8 x.kind, .int .u8 x.level, .int .u32 x.id, .int .u64 x.lsn, .int .u32 x.next, .slice A' x.rows.length c'])[k]? = cs[k]? := fun k hk => part_out hfit6 hk
  have hsz6 := part_size hfit6
  have hc6 := hc0 6 (by omega)
  have hc7 := hc0 7 (by omega)
  have hc8 := hc0 8 (by omega)
  simp only [frCells, List.getElem?_cons_succ, List.getElem?_cons_zero] at hc6 hc7 hc8
  generalize hP6 : partRow cs (it.idx * 9) [.int .u8 x.kind, .int .u8 x.level, .int .u32 x.id, .int .u64 x.lsn, .int .u32 x.next, .slice A' x.rows.length c'] = cs6 at *
  have HIN := Lib.hid hin6
  have HOUT := Lib.hid hout6
  have HB5 := Lib.hid hB5
  have HK5 := Lib.hid hk5
  have HT5 := Lib.hid ht5
  have HS5 := Lib.hid hs5
  clear hin6 hout6 hB5 hk5 ht5 hs5 hFB hP6 hfit6 hc0 h4 hW5
  cases hd : it.dirty with
  | true =>
    rw [hd] at k7
    go_wp2_with (first | ((with_reducible refine wpList_skip (w' := w5) rfl rfl ?_ ?_); exact run_op_store _ _ _ ⟨fb, it.idx * 9, none⟩ (.agg (pgCs x A' c')) rfl rfl rfl hST))
    go_ret
    refine hpost.out cs6 w5 { it with page := x } (by unfold Sp.It.put; rw [if_pos hide, if_pos hd]) hsz6 (fun j hj => ?_) (fun k hk => HOUT.out k (by omega)) HB5.out HK5.out HS5.out HT5.out
    match j, hj with
    | 0, _ => exact HIN.out 0 (by omega)
    | 1, _ => exact HIN.out 1 (by omega)
    | 2, _ => exact HIN.out 2 (by omega)
    | 3, _ => exact HIN.out 3 (by omega)
    | 4, _ => exact HIN.out 4 (by omega)
    | 5, _ => exact HIN.out 5 (by omega)
    | 6, _ => exact (HOUT.out _ (by omega)).trans hc6
    | 7, _ => exact (HOUT.out _ (by omega)).trans hc7
    | 8, _ => exact (HOUT.out _ (by omega)).trans hc8
  | false =>
    rw [hd] at k7
    go_wp2_with (first | ((with_reducible refine wpList_skip (w' := w5) rfl rfl ?_ ?_); exact run_op_store _ _ _ ⟨fb, it.idx * 9, none⟩ (.agg (pgCs x A' c')) rfl rfl rfl hST))
    have hS := Lib.hid (show w5.drew.cell? ⟨g3, 3, none⟩ = some (.int .u64 x.lsn) from z3)
    have hd7 : w5.drew.cell? ⟨fb, it.idx * 9 + 7, none⟩ = some (.bool false) := k7
    have hd8 : w5.drew.cell? ⟨fb, it.idx * 9 + 8, none⟩ = some (.int .u64 it.from_) := k8
    have hy7 : w5.drew.frozen? ⟨fb, it.idx * 9 + 7, none⟩ = false := y7
    have hy8 : w5.drew.frozen? ⟨fb, it.idx * 9 + 8, none⟩ = false := y8
    have hBd := HB5.out.drew
    have htd := HT5.out.drew
    have hkd : ∀ b, b ≠ fb → w5.drew.heap[b]? = w4.heap[b]? := HK5.out
    have hsd : w4.heap.size ≤ w5.drew.heap.size := HS5.out
    obtain ⟨w6, hw6⟩ : ∃ w6, w6 = w5.drew := ⟨_, rfl⟩
    refine R_begin (fun W => W.cell? ⟨g3, 3, none⟩ = some (.int .u64 x.lsn)) (fun _ => false) rfl ?_
    rw [← hw6] at hS hd7 hd8 hy7 hy8 hBd htd hkd hsd ⊢
    clear hw6 k6 k7 k8 y7 y8 z3 hST HB5 HK5 HT5 HS5
    refine R_tk 0 53 hS.out ?_
    refine R_tk 1 54 hS.out ?_
    refine R_tk 2 55 hS.out ?_
    simp only [zSA, zSB, zSC]
    refine R_tk 3 56 hS.out ?_
    refine R_tk 4 57 hS.out ?_
    simp only [zSA, zSB, zSC]
    refine R_tk 5 58 hS.out ?_
    simp only [zSA, zSB, zSC]
    have hS7 := Lib.hid ((show (w6.setCell ⟨fb, it.idx * 9 + 7, none⟩ (.bool true)).cell? ⟨g3, 3, none⟩ = some (.int .u64 x.lsn) from (World.cell?_of_block (a := ⟨g3, 3, none⟩) (Below.heap_setCell w6 ⟨fb, it.idx * 9 + 7, none⟩ (.bool true) g3 hg3fb)).trans hS.out))
    refine R_store 6 (n := .skip) (w' := w6.setCell ⟨fb, it.idx * 9 + 7, none⟩ (.bool true)) rfl rfl (by rfl) (by kernel_rfl) (by go_simp) (.inl rfl) (fun _ => hS7.out) ?_
    have hB7 := hBd.set_ (it.idx * 9 + 7) (.bool true)
    have ht7 := htd.setCell (p := ⟨fb, it.idx * 9 + 7, none⟩) (.inl hFfb) (.bool true)
    have hk7 : ∀ b, b ≠ fb → (w6.setCell ⟨fb, it.idx * 9 + 7, none⟩ (.bool true)).heap[b]? = w4.heap[b]? := fun b hb => (Below.heap_setCell w6 _ _ b hb).trans (hkd b hb)
    have hs7 : w4.heap.size ≤ (w6.setCell ⟨fb, it.idx * 9 + 7, none⟩ (.bool true)).heap.size := by simpa [World.setCell] using hsd
    have hf8 := hB7.frozen (it.idx * 9 + 8)
    have hlt8 : it.idx * 9 + 8 < cs6.size := by omega
    have hb8 : (w6.setCell ⟨fb, it.idx * 9 + 7, none⟩ (.bool true)).cell? ⟨fb, it.idx * 9 + 8, none⟩ = some (.int .u64 it.from_) := by
      rw [hB7.cell, Array.getElem?_setIfInBounds_ne (by omega), ← hBd.cell]; exact hd8
    obtain ⟨w7, hw7⟩ : ∃ w7, w7 = w6.setCell ⟨fb, it.idx * 9 + 7, none⟩ (.bool true) := ⟨_, rfl⟩
    rw [← hw7] at hS7 hB7 ht7 hk7 hs7 hf8 hb8 ⊢
    clear hw7 hd7 hd8 hy7 hy8 hBd htd hkd hsd hS
    refine R_tk 7 59 hS7.out ?_
    refine R_tk 8 60 hS7.out ?_
    simp only [zSA, zSB, zSC]
    have hS8 := Lib.hid ((show (w7.setCell ⟨fb, it.idx * 9 + 8, none⟩ (.int .u64 x.lsn)).cell? ⟨g3, 3, none⟩ = some (.int .u64 x.lsn) from (World.cell?_of_block (a := ⟨g3, 3, none⟩) (Below.heap_setCell w7 ⟨fb, it.idx * 9 + 8, none⟩ (.int .u64 x.lsn) g3 hg3fb)).trans hS7.out))
    refine R_store 9 (n := .skip) (w' := w7.setCell ⟨fb, it.idx * 9 + 8, none⟩ (.int .u64 x.lsn)) rfl rfl (by rfl) (by kernel_rfl) (by go_simp) (.inl rfl) (fun _ => hS8.out) ?_
    have hB8 := Lib.hid (hB7.set_ (it.idx * 9 + 8) (.int .u64 x.lsn))
    have ht8 := Lib.hid (ht7.setCell (p := ⟨fb, it.idx * 9 + 8, none⟩) (.inl hFfb) (.int .u64 x.lsn))
    have hk8 : Hid (∀ b, b ≠ fb → (w7.setCell ⟨fb, it.idx * 9 + 8, none⟩ (.int .u64 x.lsn)).heap[b]? = w4.heap[b]?) := fun b hb => (Below.heap_setCell w7 _ _ b hb).trans (hk7 b hb)
    have hs8 : Hid (w4.heap.size ≤ (w7.setCell ⟨fb, it.idx * 9 + 8, none⟩ (.int .u64 x.lsn)).heap.size) := by show _ ≤ _; simpa [World.setCell] using hs7
    refine R_done (by kernel_rfl) ?_ _
    rename_i K9 hK9
    refine hK9 _ _ ?_
    clear hK9 hB7 ht7 hk7 hs7 hS7 hS8 hf8 hb8
    generalize w7.setCell ⟨fb, it.idx * 9 + 8, none⟩ (.int .u64 x.lsn) = w8 at *
    go_wp2_with fail
    go_ret
    refine hpost.out ((cs6.setIfInBounds (it.idx * 9 + 7) (.bool true)).setIfInBounds (it.idx * 9 + 8) (.int .u64 x.lsn)) w8 { it with page := x, dirty := true, from_ := x.lsn } (by unfold Sp.It.put; rw [if_pos hide, if_neg (by rw [hd]; decide)]) (by simp; exact hsz6) (fun j hj => ?_) (fun k hk => ?_) hB8.out hk8.out hs8.out ht8.out
    · by_cases j8 : j = 8
      · subst j8
        rw [Array.getElem?_setIfInBounds_self_of_lt (by simp; omega)]
        rfl
      · rw [Array.getElem?_setIfInBounds_ne (by omega)]
        by_cases j7 : j = 7
        · subst j7
          rw [Array.getElem?_setIfInBounds_self_of_lt (by omega)]
          rfl
        · rw [Array.getElem?_setIfInBounds_ne (by omega)]
          have hj7 : j < 7 := by omega
          clear hj j8 j7
          match j, hj7 with
          | 0, _ => exact HIN.out 0 (by omega)
          | 1, _ => exact HIN.out 1 (by omega)
          | 2, _ => exact HIN.out 2 (by omega)
          | 3, _ => exact HIN.out 3 (by omega)
          | 4, _ => exact HIN.out 4 (by omega)
          | 5, _ => exact HIN.out 5 (by omega)
          | 6, _ => exact (HOUT.out _ (by omega)).trans hc6
    · rw [Array.getElem?_setIfInBounds_ne (by omega), Array.getElem?_setIfInBounds_ne (by omega)]
      exact HOUT.out k (by omega)
end Go.Proofs.YtndglfiepeefdaaGreat

/- Put of a pool: the cases that are refused; what a law sees. -/
namespace Go.Proofs.YtndglfiepeefdaaGreat
open Go.RowKit Go.Conc

section
variable {F R G : Foot} {w : World} {gp gd gl at_ base fb cb mb s r : Nat} {v : Value} {cs : Array Value} {fl ids : List Nat} {p : Sp.Pl} {x : Sp.Pg} {A : Option Addr} {c : Nat}
set_option maxRecDepth 100000 in
set_option maxHeartbeats 2000000 in
theorem pool_put_arg (h : IsPlAt F R w gp gd gl at_ base fb cb mb v s r cs fl ids p) (hR : RowsAt G w A x.rows) (hn : x.rows.length ≤ 1000000000) (ht : Sp.total x.rows ≤ 1000000000000000000) (hm : mayB x = false) :
    Calls Tryz.prog 16 #[ptr gp, pgV x A c] w fun e w' => e = .returned (.int .i64 2) ∧ Below w.heap.size w w' := by
  have hba := (Below.refl w.heap.size w).alloc (Nat.le_refl _) (.cells (pgCs x A c) 32)
  have h1 := h.keep hba.size (fun b hb => hba.block b (h.lt b hb))
  have hB1 := Blk.new w 32 (pgCs x A c)
  have hR1 := Reads.below hR hba
  have HM := Lib.hid (pool_made (w := w.alloc (.cells (pgCs x A c) 32)) h1.cells.2.2.2.2.2.2.1)
  have HMA := Lib.hid (page_mayT (w := w.alloc (.cells (pgCs x A c) 32)) (c := c) hR1 hn ht)
  rw [hm] at HMA
  clear h hR
  go_enter Tryz.func16, Tryz.ntmps16
  go_wp2_with fail
  obtain ⟨w1, hw1⟩ : ∃ w1, w1 = w.alloc (.cells (pgCs x A c) 32) := ⟨_, rfl⟩
  rw [← hw1] at h1 hB1 hR1 HM HMA hba ⊢
  obtain ⟨g3, hg3⟩ : ∃ g, g = w.heap.size := ⟨_, rfl⟩
  rw [← hg3] at hB1 ⊢
  clear hw1 hg3
  have z0 := hB1.cell 0
  have z1 := hB1.cell 1
  have z2 := hB1.cell 2
  have z3 := hB1.cell 3
  have z4 := hB1.cell 4
  have z5 := hB1.cell 5
  simp only [zGA, zGB, zGC] at z0 z1 z2 z3 z4 z5
  refine HM.out.mono ?_
  rintro e w2 ⟨rfl, hw⟩
  subst w2
  go_wp2_with fail
  refine HMA.out.mono ?_
  rintro e w2 ⟨rfl, hb2⟩
  have hb02 := hba.trans (hb2.mono hba.size)
  clear z0 z1 z2 z3 z4 z5 h1 hB1 hR1 HM HMA
  go_wp2_with fail
  go_ret
  exact ⟨rfl, hb02⟩

set_option maxRecDepth 100000 in
set_option maxHeartbeats 2000000 in
theorem pool_put_none (h : IsPlAt F R w gp gd gl at_ base fb cb mb v s r cs fl ids p) (hid : x.id < 4294967296) (hR : RowsAt G w A x.rows) (hn : x.rows.length ≤ 1000000000) (ht : Sp.total x.rows ≤ 1000000000000000000) (hm : mayB x = true) (hf : ∀ it, p.find x.id = some it → it.pins = 0) :
    Calls Tryz.prog 16 #[ptr gp, pgV x A c] w fun e w' => e = .returned (.int .i64 3) ∧ Below w.heap.size w w' := by
  have hba := (Below.refl w.heap.size w).alloc (Nat.le_refl _) (.cells (pgCs x A c) 32)
  have h1 := h.keep hba.size (fun b hb => hba.block b (h.lt b hb))
  have hB1 := Blk.new w 32 (pgCs x A c)
  have hR1 := Reads.below hR hba
  have HM := Lib.hid (pool_made (w := w.alloc (.cells (pgCs x A c) 32)) h1.cells.2.2.2.2.2.2.1)
  have HMA := Lib.hid (page_mayT (w := w.alloc (.cells (pgCs x A c) 32)) (c := c) hR1 hn ht)
  rw [hm] at HMA
  clear h hR
  go_enter Tryz.func16, Tryz.ntmps16
  go_wp2_with fail
  obtain ⟨w1, hw1⟩ : ∃ w1, w1 = w.alloc (.cells (pgCs x A c) 32) := ⟨_, rfl⟩
  rw [← hw1] at h1 hB1 hR1 HM HMA hba ⊢
  obtain ⟨g3, hg3⟩ : ∃ g, g = w.heap.size := ⟨_, rfl⟩
  rw [← hg3] at hB1 ⊢
  clear hw1 hg3
  have z0 := hB1.cell 0
  have z1 := hB1.cell 1
  have z2 := hB1.cell 2
  have z3 := hB1.cell 3
  have z4 := hB1.cell 4
  have z5 := hB1.cell 5
  simp only [zGA, zGB, zGC] at z0 z1 z2 z3 z4 z5
  refine HM.out.mono ?_
  rintro e w2 ⟨rfl, hw⟩
  subst w2
  go_wp2_with fail
  refine HMA.out.mono ?_
  rintro e w2 ⟨rfl, hb2⟩
  have hb02 := hba.trans (hb2.mono hba.size)
  have h2 := h1.keep hb2.size (fun b hb => hb2.block b (h1.lt b hb))
  have hB2 := hB1.below hb2 hB1.lt
  have c6 := h2.cells.2.2.2.2.2.2.1
  have z2 := hB2.cell 2
  simp only [zGA, zGB, zGC] at z2
  have HH2 := Lib.hid h2
  clear z0 z1 z3 z4 z5 h1 hB1 hR1 HM HMA h2
  cases hfi : p.find x.id with
  | none =>
    have hS := Lib.hid (show w2.drew.cell? ⟨gp, 6, none⟩ = some (.map (some mb)) ∧ w2.drew.cell? ⟨g3, 2, none⟩ = some (u32v x.id) ∧ (Instr.lookup 106 (.map (some mb)) (u32v x.id) true).run Tryz.prog w2.drew = .ok (.tuple #[.int .i64 0, .bool false]) w2.drew from
      ⟨c6, z2, (HH2.out.keep (w' := w2.drew) (Nat.le_refl _) (fun _ _ => rfl)).look_out hid hfi⟩)
    clear c6 z2
    go_wp2_with fail
    refine R_begin (fun W => W.cell? ⟨gp, 6, none⟩ = some (.map (some mb)) ∧ W.cell? ⟨g3, 2, none⟩ = some (u32v x.id) ∧ (Instr.lookup 106 (.map (some mb)) (u32v x.id) true).run Tryz.prog W = .ok (.tuple #[.int .i64 0, .bool false]) W) (fun _ => false) rfl ?_
    refine R_tk 0 15 hS.out ?_
    refine R_tk 1 16 hS.out ?_
    refine R_tk 2 17 hS.out ?_
    refine R_tk 3 18 hS.out ?_
    simp only [zSA, zSB, zSC]
    refine R_tk 4 19 hS.out ?_
    refine R_tk 5 20 hS.out ?_
    simp only [zSA, zSB, zSC]
    refine R_tk 6 21 hS.out ?_
    simp only [zSA, zSB, zSC]
    refine R_tk 7 14 hS.out ?_
    simp only [zSA, zSB, zSC]
    refine R_tk 8 22 hS.out ?_
    simp only [zSA, zSB, zSC]
    refine R_tk 9 23 hS.out ?_
    simp only [zSA, zSB, zSC]
    refine R_tk 10 5 hS.out ?_
    simp only [zSA, zSB, zSC]
    refine R_tk 11 6 hS.out ?_
    simp only [zSA, zSB, zSC]
    refine R_done (by kernel_rfl) ?_ _
    rename_i K9 hK9
    refine hK9 _ _ ?_
    clear hK9 hS
    go_wp2_with fail
    go_ret
    exact ⟨rfl, ⟨hb02.os, hb02.tape, hb02.output, hb02.size, hb02.block⟩⟩
  | some it =>
    have hp0 := hf it hfi
    have hit := (Sp.Pl.find_mem hfi).1
    have hS := Lib.hid (show w2.drew.cell? ⟨gp, 6, none⟩ = some (.map (some mb)) ∧ w2.drew.cell? ⟨g3, 2, none⟩ = some (u32v x.id) ∧ (Instr.lookup 106 (.map (some mb)) (u32v x.id) true).run Tryz.prog w2.drew = .ok (.tuple #[.int .i64 it.idx, .bool true]) w2.drew from
      ⟨c6, z2, (HH2.out.keep (w' := w2.drew) (Nat.le_refl _) (fun _ _ => rfl)).look_in hid hfi⟩)
    clear c6 z2
    go_wp2_with fail
    refine R_begin (fun W => W.cell? ⟨gp, 6, none⟩ = some (.map (some mb)) ∧ W.cell? ⟨g3, 2, none⟩ = some (u32v x.id) ∧ (Instr.lookup 106 (.map (some mb)) (u32v x.id) true).run Tryz.prog W = .ok (.tuple #[.int .i64 it.idx, .bool true]) W) (fun _ => false) rfl ?_
    refine R_tk 0 15 hS.out ?_
    refine R_tk 1 16 hS.out ?_
    refine R_tk 2 17 hS.out ?_
    refine R_tk 3 18 hS.out ?_
    simp only [zSA, zSB, zSC]
    refine R_tk 4 19 hS.out ?_
    refine R_tk 5 20 hS.out ?_
    simp only [zSA, zSB, zSC]
    refine R_tk 6 21 hS.out ?_
    simp only [zSA, zSB, zSC]
    refine R_tk 7 14 hS.out ?_
    simp only [zSA, zSB, zSC]
    refine R_tk 8 22 hS.out ?_
    simp only [zSA, zSB, zSC]
    refine R_tk 9 23 hS.out ?_
    simp only [zSA, zSB, zSC]
    refine R_tk 10 5 hS.out ?_
    simp only [zSA, zSB, zSC]
    refine R_tk 11 6 hS.out ?_
    simp only [zSA, zSB, zSC]
    refine R_done (by kernel_rfl) ?_ _
    rename_i K9 hK9
    refine hK9 _ _ ?_
    clear hK9 hS
    have h3 := HH2.out.keep (w' := w2.drew) (Nat.le_refl _) (fun _ _ => rfl)
    obtain ⟨c0, c1, c2, c3, c4, c5, c6, c7⟩ := h3.cells
    have cp := h3.pins hit
    rw [hp0] at cp
    have hlt9 := h3.wf.idx_lt hit
    have hn64 := h3.wf.n64
    have hb03 : Below w.heap.size w w2.drew := ⟨hb02.os, hb02.tape, hb02.output, hb02.size, hb02.block⟩
    obtain ⟨w3, hw3⟩ : ∃ w3, w3 = w2.drew := ⟨_, rfl⟩
    rw [← hw3] at c4 cp hb03 ⊢
    clear hw3 c0 c1 c2 c3 c5 c6 c7 h3 HH2 hb02 hb2 hba hB2
    go_wp2_with fail
    go_ret
    exact ⟨rfl, hb03⟩
end

theorem Sp.put_ri (p : Sp.Pl) (x : Sp.Pg) : (p.upd x.id (Sp.It.put x)).items.map Sp.It.ri = Sp.upR (p.items.map Sp.It.ri) x.id (fun y => if y.dirty then { y with page := x } else { y with page := x, dirty := true, from_ := x.lsn }) := by
  unfold Sp.Pl.upd Sp.upR
  rw [List.map_map, List.map_map]
  apply List.map_congr_left
  intro y _
  simp only [Function.comp]
  by_cases hy : y.page.id = x.id
  · rw [if_pos hy, if_pos (show y.ri.page.id = x.id from hy)]
    unfold Sp.It.put
    rw [if_pos hy]
    cases hd : y.dirty with
    | true => simp [Sp.It.ri, hd]
    | false => simp [Sp.It.ri, hd]
  · rw [if_neg hy, if_neg (show ¬ y.ri.page.id = x.id from hy)]

theorem pk_put {ly : Ly} {K G : Foot} {w : World} {gd gl gp : Nat} {l : Sp.Lg} {s : Sp.R15} (h : PkAt ly K w gd gl gp l s) {x : Sp.Pg} (hwf : x.wf) {A : Option Addr} {c : Nat} (hA : OkAddr A) (hR : RowsAt G w A x.rows) (hn : x.rows.length ≤ 1000000000) (ht : Sp.total x.rows ≤ 1000000000000000000) :
    Calls Tryz.prog 16 #[ptr gp, pgV x A c] w (CallPk ly K w gd gl gp l (s.put x (mayB x))) := by
  have H := h
  obtain ⟨p, D, F, G1, dk, hpl, hd, hg, hFD, hFG, hDG, hr, hK, hKl⟩ := h
  have hget : Sp.getR? s.L x.id = (p.find x.id).map Sp.It.ri := by rw [hr.L]; exact Sp.getR_eq p x.id
  obtain ⟨R, fb, cb, mb, v, s0, r, cs, hat⟩ := hpl
  cases hm : mayB x with
  | false =>
    have e : s.put x false = (2, s) := by unfold Sp.R15.put; rw [if_pos rfl]
    rw [e]
    refine (pool_put_arg hat hR hn ht hm).mono ?_
    rintro e' w' ⟨rfl, hb⟩
    exact pk_same H hb 2
  | true =>
    by_cases hno : ∀ it, p.find x.id = some it → it.pins = 0
    · have e : s.put x true = (3, s) := by
        unfold Sp.R15.put
        rw [if_neg (by decide), hget]
        cases hf : p.find x.id with
        | none => rfl
        | some it => simp [Sp.It.ri, hno it hf]
      rw [e]
      refine (pool_put_none hat hwf.2.2.1 hR hn ht hm hno).mono ?_
      rintro e' w' ⟨rfl, hb⟩
      exact pk_same H hb 3
    · cases hf : p.find x.id with
      | none => exact absurd (fun it h => by rw [hf] at h; cases h) hno
      | some it =>
        have hp : 1 ≤ it.pins := by
          rcases Nat.eq_zero_or_pos it.pins with e | e
          · exact absurd (fun it' h => by rw [hf] at h; injection h with h; rw [← h]; exact e) hno
          · exact e
        have e : s.put x true = (0, { s with L := Sp.upR s.L x.id (fun y => if y.dirty then { y with page := x } else { y with page := x, dirty := true, from_ := x.lsn }) }) := by
          unfold Sp.R15.put
          rw [if_neg (by decide), hget, hf]
          simp only [Option.map_some]
          rw [if_neg (by show ¬ it.pins = 0; omega)]
        rw [e]
        refine (pool_put hat ⟨hwf, (mayB_iff x).1 hm⟩ hA hR hf hp).mono ?_
        rintro e' w' ⟨rfl, F', R', cs', h', ht'⟩
        have e2 : (p.upd x.id (Sp.It.put x)).items.map (·.page.id) = p.items.map (·.page.id) := Sp.Pl.upd_ids (Sp.It.put_tame x)
        have hpl' : IsPl F' w' gp gd gl ly.at_ ly.base (p.upd x.id (Sp.It.put x)) := ⟨R', fb, cb, mb, v, s0, r, cs', by rw [e2]; exact h'⟩
        refine pk_pool hd hg hFD hFG hDG hK hKl hpl' ht' (hr.of h'.wf rfl ?_ (fun y hy => ?_)) 0
        · rw [hr.L]
          exact Sp.put_ri p x
        · obtain ⟨z, hz, rfl⟩ := Sp.Pl.upd_mem hy
          have := hr.in_ z hz
          split
          · rw [(Sp.It.put_tame x).id]; exact this
          · exact this
end Go.Proofs.YtndglfiepeefdaaGreat

/- Fresh of a pool with its disk and its log: the walk. -/
namespace Go.Proofs.YtndglfiepeefdaaGreat
open Go.RowKit Go.Conc

namespace Sp
/-- What Fresh makes of a frame. -/
def It.frs (x : Pg) (y : It) : It := if y.page.id = x.id then { y with dirty := true, from_ := x.lsn } else y
theorem It.frs_tame (x : Pg) : Tame (It.frs x) := by
  constructor
  · intro y
    unfold It.frs
    split <;> rfl
  · intro y
    unfold It.frs
    split <;> rfl
end Sp

def FreshPost (Z : Nat → Sp.Pl → List Nat → Foot → Foot → World → Prop) (Z4 : Nat → World → Prop) (H : Foot) (w : World) (gp gd gl at_ base fb cb mb : Nat) (x : Sp.Pg) (e : Ending) (w' : World) : Prop :=
  (∃ c4 : Nat, c4 ≠ 0 ∧ e = .returned (.int .i64 c4) ∧ Z4 c4 w') ∨
  ∃ (i : Nat) (p' : Sp.Pl) (F' H' : Foot) (ids' rest : List Nat) (w2 : World) (F3 R3 : Foot) (v3 : Value) (s3 r3 : Nat) (cs3 : Array Value), e = .returned (.int .i64 0) ∧
    IsPlAt F3 R3 w' gp gd gl at_ base fb cb mb v3 s3 r3 cs3 rest (ids'.filter (fun y => !(y == x.id)) ++ [x.id]) (((p'.bring x i rest).pinUp x.id).upd x.id (Sp.It.frs x)) ∧ p'.free = i :: rest ∧ p'.find x.id = none ∧ Z i p' ids' F' H' w2 ∧ (∀ b, F' b → H' b) ∧ Turns H H' w w2 ∧ (∃ G : Foot, (∀ b, G b → ¬ H' b ∧ w.heap.size ≤ b) ∧ Turns (fun b => F' b ∨ G b) F3 w2 w')

set_option maxRecDepth 100000 in
set_option maxHeartbeats 4000000 in
theorem pool_fresh_out {F R H D G : Foot} {w : World} {gp gd gl at_ base fb cb mb s r : Nat} {v : Value} {cs : Array Value} {fl ids : List Nat} {p : Sp.Pl} (h : IsPlAt F R w gp gd gl at_ base fb cb mb v s r cs fl ids p) {x : Sp.Pg} (hx : x.wf ∧ x.may) {A : Option Addr} {c : Nat} (hA : OkAddr A) (hR : RowsAt G w A x.rows) (hf : p.find x.id = none)
    {dk : Sp.Dk} (hdk : IsDk D w gd dk) (hfu : dk.fuse ≠ 0) (hlo : dk.loose = []) (hi : base + x.id * 4 + 4 ≤ dk.sure.length) (hH : ∀ b, H b → b < w.heap.size)
    (Z : Nat → Sp.Pl → List Nat → Foot → Foot → World → Prop) (Z4 : Nat → World → Prop)
    (hT : ∀ W, Below w.heap.size w W → IsPlAt F R W gp gd gl at_ base fb cb mb v s r cs fl ids p → Calls Tryz.prog 105 #[ptr gp] W (TookPost Z Z4 H R W gp gd gl at_ base fb cb mb x.id))
    (hids : ∀ i p' ids' F' H' w2, Z i p' ids' F' H' w2 → ids'.length ≤ 64) :
    Calls Tryz.prog 41 #[ptr gp, pgV x A c] w (FreshPost Z Z4 H w gp gd gl at_ base fb cb mb x) := by
  have hfit := hx.2.2.2.2.2
  have hid : x.id < 4294967296 := hx.1.2.2.1
  have hba := (Below.refl w.heap.size w).alloc (Nat.le_refl _) (.cells (pgCs x A c) 32)
  have h1 := h.keep hba.size (fun b hb => hba.block b (h.lt b hb))
  have hB1 := Blk.new w 32 (pgCs x A c)
  have hR1 := Reads.below hR hba
  have hd1 := hdk.below hba
  have HM := Lib.hid (pool_made (w := w.alloc (.cells (pgCs x A c) 32)) h1.cells.2.2.2.2.2.2.1)
  have HMA := Lib.hid (page_may (w := w.alloc (.cells (pgCs x A c) 32)) (c := c) hR1 (by omega) (by omega))
  rw [(mayB_iff x).2 hx.2] at HMA
  have hFl := h.lt
  have HT := Lib.hid hT
  clear h hR hdk hT
  go_enter Tryz.func41, Tryz.ntmps41
  go_wp2_with fail
  obtain ⟨w1, hw1⟩ : ∃ w1, w1 = w.alloc (.cells (pgCs x A c) 32) := ⟨_, rfl⟩
  rw [← hw1] at h1 hB1 hR1 hd1 HM HMA hba ⊢
  obtain ⟨g3, hg3⟩ : ∃ g, g = w.heap.size := ⟨_, rfl⟩
  rw [← hg3] at hB1 ⊢
  have hg3l : w.heap.size ≤ g3 := by omega
  clear hw1 hg3
  have z0 := hB1.cell 0
  have z1 := hB1.cell 1
  have z2 := hB1.cell 2
  have z3 := hB1.cell 3
  have z4 := hB1.cell 4
  have z5 := hB1.cell 5
  simp only [zGA, zGB, zGC] at z0 z1 z2 z3 z4 z5
  refine HM.out.mono ?_
  rintro e w2 ⟨rfl, hw⟩
  subst w2
  go_wp2_with fail
  refine HMA.out.mono ?_
  rintro e w2 ⟨rfl, hb2⟩
  have hb02 := hba.trans (hb2.mono hba.size)
  have h2 := h1.keep hb2.size (fun b hb => hb2.block b (h1.lt b hb))
  have hB2 := hB1.below hb2 hB1.lt
  have hR2 := Reads.below hR1 hb2
  have hd2 := hd1.below hb2
  have c6 := h2.cells.2.2.2.2.2.2.1
  have z2 := hB2.cell 2
  simp only [zGA, zGB, zGC] at z2
  have HH2 := Lib.hid h2
  have hS := Lib.hid (show w2.drew.cell? ⟨gp, 6, none⟩ = some (.map (some mb)) ∧ w2.drew.cell? ⟨g3, 2, none⟩ = some (u32v x.id) ∧ (Instr.lookup 106 (.map (some mb)) (u32v x.id) true).run Tryz.prog w2.drew = .ok (.tuple #[.int .i64 0, .bool false]) w2.drew from
    ⟨c6, z2, (HH2.out.keep (w' := w2.drew) (Nat.le_refl _) (fun _ _ => rfl)).look_out hid hf⟩)
  clear z0 z1 z3 z4 z5 h1 hB1 hR1 hd1 HM HMA h2 c6 z2
  go_wp2_with fail
  refine R_begin (fun W => W.cell? ⟨gp, 6, none⟩ = some (.map (some mb)) ∧ W.cell? ⟨g3, 2, none⟩ = some (u32v x.id) ∧ (Instr.lookup 106 (.map (some mb)) (u32v x.id) true).run Tryz.prog W = .ok (.tuple #[.int .i64 0, .bool false]) W) (fun _ => false) rfl ?_
  refine R_tk 0 18 hS.out ?_
  simp only [zSA, zSB, zSC]
  refine R_tk 1 19 hS.out ?_
  simp only [zSA, zSB, zSC]
  refine R_tk 2 20 hS.out ?_
  simp only [zSA, zSB, zSC]
  refine R_tk 3 21 hS.out ?_
  simp only [zSA, zSB, zSC]
  refine R_tk 4 22 hS.out ?_
  simp only [zSA, zSB, zSC]
  refine R_tk 5 23 hS.out ?_
  simp only [zSA, zSB, zSC]
  refine R_tk 6 24 hS.out ?_
  simp only [zSA, zSB, zSC]
  refine R_tk 7 17 hS.out ?_
  simp only [zSA, zSB, zSC]
  refine R_tk 8 25 hS.out ?_
  simp only [zSA, zSB, zSC]
  refine R_tk 9 26 hS.out ?_
  simp only [zSA, zSB, zSC]
  refine R_tk 10 5 hS.out ?_
  simp only [zSA, zSB, zSC]
  refine R_tk 11 6 hS.out ?_
  simp only [zSA, zSB, zSC]
  refine R_done (by kernel_rfl) ?_ _
  rename_i K9 hK9
  refine hK9 _ _ ?_
  clear hK9 hS
  have h3 := HH2.out.keep (w' := w2.drew) (Nat.le_refl _) (fun _ _ => rfl)
  have hB3 := hB2.drew
  have hd3 := hd2.below (Below.refl _ w2).drew
  have hb03 : Below w.heap.size w w2.drew := ⟨hb02.os, hb02.tape, hb02.output, hb02.size, hb02.block⟩
  have hR3 : RowsAt G w2.drew A x.rows := Reads.below hR2 (Below.refl _ w2).drew
  obtain ⟨w3, hw3⟩ : ∃ w3, w3 = w2.drew := ⟨_, rfl⟩
  rw [← hw3] at h3 hB3 hb03 hR3 hd3 ⊢
  clear hw3 hb02 hB2 hR2 HH2 hb2 hba hd2
  go_wp2_with fail
  obtain ⟨c0, c1, c2, c3, c4, c5, c6, c7⟩ := h3.cells
  have z2 := hB3.cell 2
  simp only [zGA, zGB, zGC] at z2
  have hS := Lib.hid (show w3.drew.cell? ⟨gp, 0, none⟩ = some (ptr gd) ∧ w3.drew.cell? ⟨gp, 3, none⟩ = some (.int .i64 base) ∧ w3.drew.cell? ⟨g3, 2, none⟩ = some (u32v x.id) from ⟨c0, c3, z2⟩)
  have HTR := Lib.hid (twin_read (w := w3.drew) (hd3.below (Below.refl _ w3).drew) hfu hlo base x.id hid hi)
  generalize Sp.pageAt dk.sure (base + x.id * 4) = pg at *
  clear c0 c1 c2 c3 c4 c5 c6 c7 z2
  refine R_begin (fun W => W.cell? ⟨gp, 0, none⟩ = some (ptr gd) ∧ W.cell? ⟨gp, 3, none⟩ = some (.int .i64 base) ∧ W.cell? ⟨g3, 2, none⟩ = some (u32v x.id)) (fun _ => false) rfl ?_
  refine R_tk 0 29 hS.out ?_
  simp only [zSA, zSB, zSC]
  refine R_tk 1 30 hS.out ?_
  simp only [zSA, zSB, zSC]
  refine R_tk 2 31 hS.out ?_
  simp only [zSA, zSB, zSC]
  refine R_tk 3 32 hS.out ?_
  simp only [zSA, zSB, zSC]
  refine R_tk 4 33 hS.out ?_
  simp only [zSA, zSB, zSC]
  refine R_tk 5 34 hS.out ?_
  simp only [zSA, zSB, zSC]
  refine R_tk 6 35 hS.out ?_
  simp only [zSA, zSB, zSC]
  refine R_tk 7 36 hS.out ?_
  simp only [zSA, zSB, zSC]
  refine R_tk 8 37 hS.out ?_
  simp only [zSA, zSB, zSC]
  refine R_tk 9 38 hS.out ?_
  simp only [zSA, zSB, zSC]
  refine R_call 10 39 (w' := w3.drew) rfl rfl (by rfl) (by kernel_rfl) ?_ HTR.out ?_
  · go_simp
  rintro e w4 ⟨rfl, hb4⟩
  have hbd : Below w3.heap.size w3 w4 := (Below.refl w3.heap.size w3).drew.trans hb4
  have h4 := h3.keep hbd.size (fun b hb => hbd.block b (h3.lt b hb))
  have hB4 := hB3.below hbd hB3.lt
  have hR4 := Reads.below hR3 hbd
  have hb04 : Below w.heap.size w w4 := hb03.trans (hbd.mono hb03.size)
  have hS3 : w4.cell? ⟨gp, 0, none⟩ = some (ptr gd) ∧ w4.cell? ⟨gp, 3, none⟩ = some (.int .i64 base) ∧ w4.cell? ⟨g3, 2, none⟩ = some (u32v x.id) := ⟨h4.cells.1, h4.cells.2.2.2.1, hB4.cell 2⟩
  clear hS HTR
  have hS := Lib.hid hS3
  refine ⟨_, rfl, fun _ => hS3, ?_⟩
  clear hS3
  simp only [zSA, zSB, zSC]
  refine R_tk 11 28 hS.out ?_
  simp only [zSA, zSB, zSC]
  refine R_tk 12 40 hS.out ?_
  simp only [zSA, zSB, zSC]
  refine R_tk 13 41 hS.out ?_
  simp only [zSA, zSB, zSC]
  refine R_tk 14 7 hS.out ?_
  simp only [zSA, zSB, zSC]
  refine R_tk 15 8 hS.out ?_
  simp only [zSA, zSB, zSC]
  refine R_done (by kernel_rfl) ?_ _
  rename_i K9 hK9
  refine hK9 _ _ ?_
  clear hK9 hS h3 hB3 hR3 hd3 hb03 hb4 hbd
  have z0 := hB4.cell 0
  have z1 := hB4.cell 1
  have z2 := hB4.cell 2
  have z3 := hB4.cell 3
  have z4 := hB4.cell 4
  have z5 := hB4.cell 5
  simp only [zGA, zGB, zGC] at z0 z1 z2 z3 z4 z5
  have HCP := Lib.hid (pool_copied (c := c) hA hR4 (by omega))
  have H4 := Lib.hid h4
  clear h4 hR4
  go_wp2_with fail
  refine HCP.out.mono ?_
  rintro e w5 ⟨A', c', rfl, hA', hR', hb5⟩
  have h5 := H4.out.keep hb5.size (fun b hb => hb5.block b (H4.out.lt b hb))
  have hR5 := rows_tight hR'
  have hB5 := hB4.below hb5 hB4.lt
  have hb05 : Below w.heap.size w w5 := hb04.trans (hb5.mono hb04.size)
  have hg34 := hB4.lt
  have hs4 := hb04.size
  have hroF : ∀ b, (w4.heap.size ≤ b ∧ rowOf w5 A' b) → b < w5.heap.size := fun b hb => hb.2.2
  have hb6 := (Below.refl w5.heap.size w5).alloc (Nat.le_refl _) (.cells (pgCs x A' c') 32)
  have HBR := Lib.hid (pool_brings (w := w5) (H := H) (G := fun b => w4.heap.size ≤ b ∧ rowOf w5 A' b) hx hA' hR5 (fun b hb => ⟨fun hh => by have := hH b hh; have := hb.1; omega, by have := hroF b hb; omega⟩) (fun b hb => by have := hH b hb; have := hb05.size; omega) Z Z4
    (HT.out _ (hb05.trans (hb6.mono hb05.size)) (h5.keep hb6.size (fun b hb => hb6.block b (h5.lt b hb)))))
  have htw5 := Turns.of_below hb05 H
  have hg3H : ¬ H g3 := fun hh => by have := hH g3 hh; omega
  have hg3r : ¬ (w4.heap.size ≤ g3 ∧ rowOf w5 A' g3) := fun hh => by omega
  have HB5 := Lib.hid hB5
  clear hb6 HT h5 hb05 hA' hR' hR5 hB5 H4 hB4 HCP z0 z1 z2 z3 z4 z5
  go_wp2_with fail
  refine HBR.out.mono ?_
  rintro e w7 (⟨c4, hc4, rfl, hz, htz⟩ | ⟨i, p', F', H', v', s', r', cs', ids', rest, w6, rfl, h7, hfree, hnone, ht6, hF', hZ, ht7⟩)
  · have dc : ((c4 : Int) != 0) = true := by simpa using hc4
    clear HBR
    go_wp2_with fail
    go_ret
    exact .inl ⟨c4, hc4, rfl, hz⟩
  obtain ⟨it, hite⟩ : ∃ it : Sp.It, it = ⟨x, 0, false, 0, i⟩ := ⟨_, rfl⟩
  obtain ⟨p2, hp2⟩ : ∃ p2, p2 = p'.bring x i rest := ⟨_, rfl⟩
  have hit : it ∈ p2.items := by rw [hp2, hite]; simp [Sp.Pl.bring]
  have hxe : x = it.page := by rw [hite]
  have hpin0 : it.pins < 1000000000 := by rw [hite]; simp
  have hpin0' : it.pins = 0 := by rw [hite]
  rw [← hp2] at h7
  have hf2 : p2.find it.page.id = some it := Sp.Pl.find_of h7.wf hit
  have hl' := hids i p' ids' F' H' w6 hZ
  have HP2 := Lib.hid hp2
  have hg3H' : ¬ H' g3 := fun hh => by
    have hz := HB5.out.lt
    rcases ht6.foot g3 hh with h | h
    · exact hg3H h
    · omega
  have hg3F : ¬ (F' g3 ∨ (w4.heap.size ≤ g3 ∧ rowOf w5 A' g3)) := fun hh => by
    rcases hh with hh | hh
    · exact hg3H' (hF' g3 hh)
    · exact hg3r hh
  have hB7 := (HB5.out.turns ht6 hg3H).turns ht7 (fun hh => hg3F (.inl hh))
  have HPN := Lib.hid (pool_pins_walk h7 (id := it.page.id) (by rw [← hxe]; exact hid) hf2 hpin0 hl')
  have hlt9 := h7.wf.idx_lt hit
  have hn64 := h7.wf.n64
  have hs67 := ht7.size
  have hs56 := ht6.size
  have z2 := hB7.cell 2
  simp only [zGA, zGB, zGC] at z2
  clear h7 hp2 hite HB5 HBR
  subst hxe
  go_wp2_with fail
  refine (HPN.out).mono ?_
  rintro e w8 ⟨F3, v3, cs3, rfl, h8, ht8⟩
  clear HPN z2
  have hit3 : ({ it with pins := it.pins + 1 } : Sp.It) ∈ (p2.pinUp it.page.id).items := List.mem_map.2 ⟨it, hit, by simp⟩
  have hF3 : ∀ b, F3 b → (F' b ∨ (w4.heap.size ≤ b ∧ rowOf w5 A' b)) ∨ w7.heap.size ≤ b := fun b hb => ht8.foot b hb
  have hB8 := hB7.turns ht8 hg3F
  have hg37 := hB7.lt
  have hnF3 : ¬ F3 g3 := fun hh => by
    rcases hF3 g3 hh with h | h
    · exact hg3F h
    · omega
  obtain ⟨A2, c2, hA2, hR2, hc0⟩ := h8.fr.item _ hit3
  have hFfb := h8.foot.2.1
  have hg3fb : g3 ≠ fb := fun e => hnF3 (e ▸ hFfb)
  have hcs := h8.fr.size
  have k7 := (h8.fr.blk.cell _).trans (hc0 7 (by omega))
  have k8 := (h8.fr.blk.cell _).trans (hc0 8 (by omega))
  simp only [frCells, List.getElem?_cons_succ, List.getElem?_cons_zero] at k7 k8
  have y7 := h8.fr.blk.frozen (it.idx * 9 + 7)
  have y8 := h8.fr.blk.frozen (it.idx * 9 + 8)
  have z3 := hB8.cell 3
  simp only [zGA, zGB, zGC] at z3
  have H8 := Lib.hid h8
  clear h8 hB7
  go_wp2_with fail
  have hS := Lib.hid (show w8.drew.cell? ⟨g3, 3, none⟩ = some (.int .u64 it.page.lsn) from z3)
  have hd7 : w8.drew.cell? ⟨fb, it.idx * 9 + 7, none⟩ = some (.bool it.dirty) := k7
  have hd8 : w8.drew.cell? ⟨fb, it.idx * 9 + 8, none⟩ = some (.int .u64 it.from_) := k8
  have hy7 : w8.drew.frozen? ⟨fb, it.idx * 9 + 7, none⟩ = false := y7
  have hy8 : w8.drew.frozen? ⟨fb, it.idx * 9 + 8, none⟩ = false := y8
  have hBd := H8.out.fr.blk.drew
  have htd : Turns F3 F3 w8 w8.drew := (Turns.refl F3 w8).drew
  obtain ⟨w9, hw9⟩ : ∃ w9, w9 = w8.drew := ⟨_, rfl⟩
  refine R_begin (fun W => W.cell? ⟨g3, 3, none⟩ = some (.int .u64 it.page.lsn)) (fun _ => false) rfl ?_
  rw [← hw9] at hS hd7 hd8 hy7 hy8 hBd htd ⊢
  have hkd : ∀ b, b ≠ fb → w9.heap[b]? = w8.heap[b]? := fun b _ => by rw [hw9]; rfl
  have hsd : w8.heap.size ≤ w9.heap.size := by rw [hw9]; exact Nat.le_refl _
  clear hw9 k7 k8 y7 y8 z3
  refine R_tk 0 55 hS.out ?_
  refine R_tk 1 56 hS.out ?_
  refine R_tk 2 57 hS.out ?_
  simp only [zSA, zSB, zSC]
  refine R_tk 3 58 hS.out ?_
  refine R_tk 4 59 hS.out ?_
  simp only [zSA, zSB, zSC]
  refine R_tk 5 60 hS.out ?_
  simp only [zSA, zSB, zSC]
  have hS7 := Lib.hid ((show (w9.setCell ⟨fb, it.idx * 9 + 7, none⟩ (.bool true)).cell? ⟨g3, 3, none⟩ = some (.int .u64 it.page.lsn) from (World.cell?_of_block (a := ⟨g3, 3, none⟩) (Below.heap_setCell w9 ⟨fb, it.idx * 9 + 7, none⟩ (.bool true) g3 hg3fb)).trans hS.out))
  refine R_store 6 (n := .skip) (w' := w9.setCell ⟨fb, it.idx * 9 + 7, none⟩ (.bool true)) rfl rfl (by rfl) (by kernel_rfl) (by go_simp) (.inl rfl) (fun _ => hS7.out) ?_
  have hB9 := hBd.set_ (it.idx * 9 + 7) (.bool true)
  have ht9 := htd.setCell (p := ⟨fb, it.idx * 9 + 7, none⟩) (.inl hFfb) (.bool true)
  have hk9 : ∀ b, b ≠ fb → (w9.setCell ⟨fb, it.idx * 9 + 7, none⟩ (.bool true)).heap[b]? = w8.heap[b]? := fun b hb => (Below.heap_setCell w9 _ _ b hb).trans (hkd b hb)
  have hs9 : w8.heap.size ≤ (w9.setCell ⟨fb, it.idx * 9 + 7, none⟩ (.bool true)).heap.size := by simpa [World.setCell] using hsd
  have hf8 := hB9.frozen (it.idx * 9 + 8)
  have hlt8 : it.idx * 9 + 8 < cs3.size := by rw [hcs]; show _ < p2.n * 9; omega
  have hb8 : (w9.setCell ⟨fb, it.idx * 9 + 7, none⟩ (.bool true)).cell? ⟨fb, it.idx * 9 + 8, none⟩ = some (.int .u64 it.from_) := by
    rw [hB9.cell, Array.getElem?_setIfInBounds_ne (by omega), ← hBd.cell]; exact hd8
  obtain ⟨w10, hw10⟩ : ∃ w10, w10 = w9.setCell ⟨fb, it.idx * 9 + 7, none⟩ (.bool true) := ⟨_, rfl⟩
  rw [← hw10] at hS7 hB9 ht9 hk9 hs9 hf8 hb8 ⊢
  clear hw10 hd7 hd8 hy7 hy8 hBd htd hkd hsd hS
  refine R_tk 7 61 hS7.out ?_
  refine R_tk 8 62 hS7.out ?_
  simp only [zSA, zSB, zSC]
  have hS8 := Lib.hid ((show (w10.setCell ⟨fb, it.idx * 9 + 8, none⟩ (.int .u64 it.page.lsn)).cell? ⟨g3, 3, none⟩ = some (.int .u64 it.page.lsn) from (World.cell?_of_block (a := ⟨g3, 3, none⟩) (Below.heap_setCell w10 ⟨fb, it.idx * 9 + 8, none⟩ (.int .u64 it.page.lsn) g3 hg3fb)).trans hS7.out))
  refine R_store 9 (n := .skip) (w' := w10.setCell ⟨fb, it.idx * 9 + 8, none⟩ (.int .u64 it.page.lsn)) rfl rfl (by rfl) (by kernel_rfl) (by go_simp) (.inl rfl) (fun _ => hS8.out) ?_
  have hB10 := Lib.hid (hB9.set_ (it.idx * 9 + 8) (.int .u64 it.page.lsn))
  have ht10 := Lib.hid (ht9.setCell (p := ⟨fb, it.idx * 9 + 8, none⟩) (.inl hFfb) (.int .u64 it.page.lsn))
  have hk10 : Hid (∀ b, b ≠ fb → (w10.setCell ⟨fb, it.idx * 9 + 8, none⟩ (.int .u64 it.page.lsn)).heap[b]? = w8.heap[b]?) := fun b hb => (Below.heap_setCell w10 _ _ b hb).trans (hk9 b hb)
  have hs10 : Hid (w8.heap.size ≤ (w10.setCell ⟨fb, it.idx * 9 + 8, none⟩ (.int .u64 it.page.lsn)).heap.size) := by show _ ≤ _; simpa [World.setCell] using hs9
  refine R_done (by kernel_rfl) ?_ _
  rename_i K9 hK9
  refine hK9 _ _ ?_
  clear hK9 hB9 ht9 hk9 hs9 hS7 hS8 hf8 hb8
  generalize w10.setCell ⟨fb, it.idx * 9 + 8, none⟩ (.int .u64 it.page.lsn) = w11 at *
  go_wp2_with fail
  go_ret
  have hpl := H8.out.upd (f := Sp.It.frs it.page) (w' := w11) (cs' := (cs3.setIfInBounds (it.idx * 9 + 7) (.bool true)).setIfInBounds (it.idx * 9 + 8) (.int .u64 it.page.lsn)) (Sp.It.frs_tame it.page) hit3 ?_ hs10.out (fun b _ hb => hk10.out b hb) hB10.out ⟨by simp, fun k hk => ?_⟩ ⟨A2, c2, hA2, ?_, fun j hj => ?_⟩
  · rw [HP2.out] at hpl
    refine .inr ⟨i, p', F', H', ids', rest, w6, F3, (fun b => R b ∨ (w4.heap.size ≤ b ∧ rowOf w5 A' b)), v3, s', r', _, rfl, hpl, hfree, hnone, hZ, hF', htw5.trans ht6, ⟨fun b => (w4.heap.size ≤ b ∧ rowOf w5 A' b), ?_, ?_⟩⟩
    · rintro b hb
      have hb4 := hroF b hb
      refine ⟨fun hh => ?_, by have := hb.1; omega⟩
      rcases ht6.foot b hh with h | h
      · have := hH b h; have := hb.1; omega
      · omega
    · refine ⟨ht10.out.os.trans (ht8.os.trans ht7.os), ht10.out.tape.trans (ht8.tape.trans ht7.tape), ht10.out.output.trans (ht8.output.trans ht7.output), Nat.le_trans hs67 (Nat.le_trans ht8.size ht10.out.size), fun b hb hn => ?_, fun b hb => ?_⟩
      · have hbF3 : ¬ F3 b := fun hh => by
          rcases hF3 b hh with h | h
          · exact hn h
          · omega
        have hs8 := ht8.size
        rw [ht10.out.block b (by omega) hbF3, ht8.block b (by omega) hn]
        exact ht7.block b hb (fun h => hn (.inl h))
      · rcases hF3 b hb with h | h
        · exact .inl h
        · exact .inr (by omega)
  · have hsm := H8.out.wf.small _ hit3
    have hpg := H8.out.wf.pg _ hit3
    unfold Sp.It.frs
    rw [if_pos rfl]
    exact ⟨hpg.1, hpg.2, hsm.1, hpg.1.2.2.2.1⟩
  · rw [Array.getElem?_setIfInBounds_ne (by have : (k < it.idx * 9 ∨ it.idx * 9 + 9 ≤ k) := hk; omega), Array.getElem?_setIfInBounds_ne (by have : (k < it.idx * 9 ∨ it.idx * 9 + 9 ≤ k) := hk; omega)]
  · have e : (Sp.It.frs it.page { it with pins := it.pins + 1 }).page = it.page := by
      unfold Sp.It.frs
      rw [if_pos rfl]
    rw [e]
    exact hR2.keep hs10.out (fun b hb => hk10.out b (H8.out.rows b hb).2.2.1)
  · have e : Sp.It.frs it.page { it with pins := it.pins + 1 } = { it with pins := it.pins + 1, dirty := true, from_ := it.page.lsn } := by
      unfold Sp.It.frs
      rw [if_pos rfl]
    rw [e]
    show ((cs3.setIfInBounds (it.idx * 9 + 7) (.bool true)).setIfInBounds (it.idx * 9 + 8) (.int .u64 it.page.lsn))[it.idx * 9 + j]? = _
    by_cases j8 : j = 8
    · subst j8
      rw [Array.getElem?_setIfInBounds_self_of_lt (by simp; omega)]
      rfl
    · rw [Array.getElem?_setIfInBounds_ne (by omega)]
      by_cases j7 : j = 7
      · subst j7
        rw [Array.getElem?_setIfInBounds_self_of_lt (by omega)]
        rfl
      · rw [Array.getElem?_setIfInBounds_ne (by omega)]
        have := hc0 j hj
        refine this.trans ?_
        have hj7 : j < 7 := by omega
        match j, hj7 with
        | 0, _ | 1, _ | 2, _ | 3, _ | 4, _ | 5, _ | 6, _ => rfl
end Go.Proofs.YtndglfiepeefdaaGreat
