/- The walks of package pool: take. -/
import Derived.Test.YtbpjgdbkmnhnmaaGreatML

namespace Go.Proofs.YtbpjgdbkmnhnmaaGreat
open Go.RowKit Go.Conc

def TakePost (F R : Foot) (w : World) (gp gd gl at_ base fb cb mb : Nat) (i : Nat) (fl ids : List Nat) (p : Sp.Pl) (e : Ending) (w' : World) : Prop :=
  e = .returned (.tuple #[.int .i64 i, .int .i64 0]) ∧ ∃ F' v' s' r' cs', IsPlAt F' R w' gp gd gl at_ base fb cb mb v' s' r' cs' fl ids p ∧ Turns F F' w w'

theorem chan_pop (i : Nat) (rest : List Nat) : ((i :: rest).map fun (i : Nat) => Value.int .i64 (i : Int)).toArray.getD 0 undef = .int .i64 i ∧
    ((i :: rest).map fun (i : Nat) => Value.int .i64 (i : Int)).toArray.extract 1 ((i :: rest).map fun (i : Nat) => Value.int .i64 (i : Int)).toArray.size = (rest.map fun (i : Nat) => Value.int .i64 (i : Int)).toArray := by
  constructor
  · simp
  · simp only [List.map_cons, List.extract_toArray, List.size_toArray, List.length_cons, List.length_map]
    congr 1
    simp [List.take_of_length_le]

set_option maxRecDepth 100000 in
set_option maxHeartbeats 2000000 in
theorem pool_take_free {F R : Foot} {w : World} {gp gd gl at_ base fb cb mb s r : Nat} {v : Value} {cs : Array Value} {ids : List Nat} {p : Sp.Pl} (h : IsPlAt F R w gp gd gl at_ base fb cb mb v s r cs p.free ids p)
    {i : Nat} {rest : List Nat} (hfree : p.free = i :: rest) :
    Calls Tryz.prog 87 #[ptr gp] w (TakePost F R w gp gd gl at_ base fb cb mb i rest ids p) := by
  refine calls_of_wpN Tryz.func87 rfl ?_
  simp only [Tryz.ntmps87, List.size_toArray, List.length_cons, List.length_nil, Nat.reduceAdd, Nat.reduceSub, Array.replicate_succ, Array.replicate_zero, List.push_toArray, List.append_toArray, List.nil_append, List.cons_append]
  obtain ⟨c0, c1, c2, c3, c4, c5, c6, c7⟩ := h.cells
  have hc := h.chan
  rw [hfree] at hc
  have hch := h.chans (fl' := rest) (s' := s) (r' := r + 1)
  have hgr := grown_setChan w cb p.n (rest.map fun (i : Nat) => Value.int .i64 (i : Int)).toArray false s (r + 1) false
  have ht := (Turns.refl F w).grown hgr (fun k hk => .inl (by injection hk with hk; rw [← hk]; exact h.foot.2.2.1))
  have HCH := Lib.hid hch
  clear c0 c1 c2 c3 c4 c6 c7 hch hgr h
  refine wpN_seq_k ?_
  intro K hK
  go_wp2_with fail
  refine wpN_seq ?_
  refine wpN_seq_k ?_
  intro K hK
  go_wp2_with fail
  refine wpN_seq ?_
  refine wpN_region ?_
  change wpT _ _ _ [0, 1, 2] _ _
  refine T_select_recv 0 12 (c := cb) (cap := p.n) (buf := ((i :: rest).map fun (i : Nat) => Value.int .i64 (i : Int)).toArray) (s := s) (r := r) (closed := false) (tm := false) (z := .int .i64 0) (w' := w) rfl rfl (by rfl) ?_ hc (by simp) ?_
  · go_simp
    rfl
  simp only [List.setIfInBounds_toArray, List.set_cons_zero, List.set_cons_succ]
  obtain ⟨e1, e2⟩ := chan_pop i rest
  rw [e1, e2]
  clear e1 e2 hc c5
  generalize w.setChan cb p.n (rest.map fun (i : Nat) => Value.int .i64 (i : Int)).toArray false s (r + 1) false = w8 at *
  refine T_value 1 13 (v := .int .i64 0) (w' := w8) rfl rfl (by rfl) (by go_simp) ?_
  simp only [List.setIfInBounds_toArray, List.set_cons_zero, List.set_cons_succ]
  refine T_value 2 14 (v := .bool true) (w' := w8) rfl rfl (by rfl) (by go_simp) ?_
  simp only [List.setIfInBounds_toArray, List.set_cons_zero, List.set_cons_succ]
  refine T_done ?_
  simp only [Exit.then]
  refine wpN_of_wp ?_
  go_wp2_with fail
  go_ret2
  exact ⟨rfl, _, _, _, _, _, HCH.out, ht⟩

theorem row_cell {w : World} {b cap : Nat} {ids : List Nat} (h : w.ownsRow 0 26 1 (.slice (some ⟨b, 0, none⟩) ids.length cap) ids.length (ids.map fun (i : Nat) => Value.int .u32 (i : Int))) {k : Nat} (hk : k < ids.length) : w.cell? ⟨b, k, none⟩ = some (u32v ids[k]!) := by
  rcases h.2 with ⟨h0, _⟩ | ⟨g, c, cur, h0, _, hh, h1, h2, h3, h4⟩
  · cases h0
  · injection h0 with a1 a2 a3
    injection a1 with a1
    injection a1 with a1
    subst a1
    rw [cell_of_row w b k cur _ (0, 0) hh]
    have := congrArg (fun l => l[k]?) h4
    simp only [Nat.mul_one, List.getElem?_take, hk, if_true] at this
    rw [Array.getElem?_toList] at this
    rw [this]
    simp [hk]

/-- What holds behind the drop of a page: what X says of it. -/
def DropX (X : Sp.It → Foot → World → World → Prop) (R : Foot) (w : World) (gp gd gl at_ base fb cb mb : Nat) (fl ids : List Nat) (p : Sp.Pl) (it : Sp.It) (e : Ending) (w' : World) : Prop :=
  e = .returned (.int .i64 0) ∧ ∃ F' v' s' r' cs', IsPlAt F' R w' gp gd gl at_ base fb cb mb v' s' r' cs' (fl ++ [it.idx]) (ids.filter (fun x => !(x == it.page.id))) (p.drop it.page.id it.idx) ∧ X it F' w w'

/-- take, where no frame is free: the first of the row that is not pinned goes. -/
def ScanPost (X : Sp.It → Foot → World → World → Prop) (R : Foot) (w : World) (gp gd gl at_ base fb cb mb : Nat) (ids : List Nat) (p : Sp.Pl) (e : Ending) (w' : World) : Prop :=
  (e = .returned (.tuple #[.int .i64 0, .int .i64 4]) ∧ (∀ n ∈ ids, ∃ it, p.find n = some it ∧ 0 < it.pins) ∧ Turns noFoot noFoot w w') ∨
  ∃ pre it post, ids = pre ++ it.page.id :: post ∧ (∀ n ∈ pre, ∃ y, p.find n = some y ∧ 0 < y.pins) ∧ p.find it.page.id = some it ∧ it.pins = 0 ∧ e = .returned (.tuple #[.int .i64 it.idx, .int .i64 0]) ∧
    ∃ W w1 F' v' s' r' cs', Turns noFoot noFoot w W ∧ X it F' W w1 ∧ IsPlAt F' R w' gp gd gl at_ base fb cb mb v' s' r' cs' [] (ids.filter (fun x => !(x == it.page.id))) (p.drop it.page.id it.idx) ∧ Turns (only cb) (only cb) w1 w'

set_option maxRecDepth 100000 in
set_option maxHeartbeats 4000000 in
theorem pool_take_scan {F R : Foot} {w : World} {gp gd gl at_ base fb cb mb s r : Nat} {v : Value} {cs : Array Value} {ids : List Nat} {p : Sp.Pl} (h : IsPlAt F R w gp gd gl at_ base fb cb mb v s r cs p.free ids p)
    (hfree : p.free = []) (hin : ∀ n ∈ ids, n < 4294967296 ∧ ∃ it, p.find n = some it) (hl : ids.length ≤ 64) (X : Sp.It → Foot → World → World → Prop)
    (hD : ∀ it ∈ p.items, it.pins = 0 → ∀ W, IsPlAt F R W gp gd gl at_ base fb cb mb v s r cs p.free ids p → Turns noFoot noFoot w W → Calls Tryz.prog 44 #[ptr gp, u32v it.page.id] W (DropX X R W gp gd gl at_ base fb cb mb p.free ids p it)) :
    Calls Tryz.prog 87 #[ptr gp] w (ScanPost X R w gp gd gl at_ base fb cb mb ids p) := by
  refine calls_of_wpN Tryz.func87 rfl ?_
  simp only [Tryz.ntmps87, List.size_toArray, List.length_cons, List.length_nil, Nat.reduceAdd, Nat.reduceSub, Array.replicate_succ, Array.replicate_zero, List.push_toArray, List.append_toArray, List.nil_append, List.cons_append]
  have hc := h.chan
  rw [hfree] at hc
  obtain ⟨c0, c1, c2, c3, c4, c5, c6, c7⟩ := h.cells
  have H := Lib.hid h
  have HD := Lib.hid hD
  have HIN := Lib.hid hin
  have hids : ids = [] ∨ ∃ b cap, v = .slice (some ⟨b, 0, none⟩) ids.length cap ∧ ids.length ≤ cap := by
    rcases h.row.2 with ⟨_, h0⟩ | ⟨g, cap, cur, h0, _, hh, h1, h2, h3, h4⟩
    · exact .inl (List.eq_nil_of_length_eq_zero h0)
    · exact .inr ⟨g, cap, h0, h1⟩
  have hv : ∃ A n c, v = .slice A n c ∧ n = ids.length := by
    rcases h.row.2 with ⟨h0, h1⟩ | ⟨g, cap, cur, h0, _⟩
    · exact ⟨_, _, _, h0, h1.symm⟩
    · exact ⟨_, _, _, h0, rfl⟩
  obtain ⟨Av, nv, cv, rfl, rfl⟩ := hv
  clear c0 c1 c2 c3 c4 c6 h hD hin
  refine wpN_seq_k ?_
  intro K hK
  go_wp2_with fail
  refine wpN_seq ?_
  refine wpN_seq_k ?_
  intro K hK
  go_wp2_with fail
  refine wpN_seq ?_
  refine wpN_region ?_
  change wpT _ _ _ [0, 1, 2] _ _
  refine T_select_default 0 12 (c := cb) (cap := p.n) (s := s) (r := r) (tm := false) (z := .int .i64 0) (w' := w) rfl rfl (by rfl) ?_ hc ?_
  · go_simp
    rfl
  simp only [List.setIfInBounds_toArray, List.set_cons_zero, List.set_cons_succ]
  refine T_value 1 13 (v := .int .i64 (-1)) (w' := w) rfl rfl (by rfl) (by go_simp) ?_
  simp only [List.setIfInBounds_toArray, List.set_cons_zero, List.set_cons_succ]
  refine T_value 2 14 (v := .bool false) (w' := w) rfl rfl (by rfl) (by go_simp) ?_
  simp only [List.setIfInBounds_toArray, List.set_cons_zero, List.set_cons_succ]
  refine T_done ?_
  simp only [Exit.then]
  refine wpN_of_wp ?_
  go_wp2_with fail
  refine wpN_seq ?_
  refine wpN_seq_k ?_
  intro K hK
  go_wp2_with fail
  refine wpN_block ?_
  refine wpN_loop (fun a wr => ∃ (k : Nat) (u6 u23 u24 u25 u26 u27 u28 u29 u30 u31 u32 u33 u34 u35 u36 u37 u38 u39 u51 : Value), k ≤ ids.length ∧ a = { tmps := #[ptr gp, undef, .int .i64 0, .int .i64 0, undef, undef, u6, undef, ptr gp, .pointer (some ⟨gp, 0, none⟩), .pointer (some ⟨gp, 5, none⟩), .chan (some cb), .tuple #[goInt (-1), .bool false, .int .i64 0], .int .i64 (-1), .bool false, undef, undef, ptr gp, .pointer (some ⟨gp, 0, none⟩), .pointer (some ⟨gp, 7, none⟩), .slice Av ids.length cv, .int .i64 ids.length, .int .i64 (k : Nat), u23, u24, u25, u26, u27, u28, u29, u30, u31, u32, u33, u34, u35, u36, u37, u38, u39, undef, undef, undef, undef, undef, undef, undef, undef, undef, undef, undef, u51], defers := [] } ∧ Turns noFoot noFoot w wr ∧ ∀ n ∈ ids.take k, ∃ it, p.find n = some it ∧ 0 < it.pins) (fun a _ => ids.length - (intOf (a.tmps.getD 22 undef)).toNat) ?_ ?_
  · exact ⟨0, undef, undef, undef, undef, undef, undef, undef, undef, undef, undef, undef, undef, undef, undef, undef, undef, undef, undef, undef, Nat.zero_le _, rfl, Turns.refl _ _, by simp⟩
  rintro a wr ⟨k, u6, u23, u24, u25, u26, u27, u28, u29, u30, u31, u32, u33, u34, u35, u36, u37, u38, u39, u51, hk, rfl, htr, hpre⟩
  have hkp := H.out.keep htr.size (fun b hb => htr.block b (H.out.lt b hb) (fun e => e))
  by_cases hlt : k < ids.length
  · rcases hids with h0 | ⟨rb, rc, hv, hcap⟩
    · rw [h0] at hlt; exact absurd hlt (by simp)
    obtain ⟨rfl, rfl⟩ : Av = some ⟨rb, 0, none⟩ ∧ cv = rc := by injection hv with a1 a2 a3; exact ⟨a1, a3⟩
    have hck : wr.cell? ⟨rb, k, none⟩ = some (u32v ids[k]!) := by
      have := row_cell hkp.row hlt
      exact this
    obtain ⟨hid, it, hf⟩ := HIN.out ids[k]! (by rw [getElem!_pos _ k hlt]; exact List.getElem_mem hlt)
    have htk : ids.take (k + 1) = ids.take k ++ [ids[k]!] := by rw [List.take_succ_eq_append_getElem hlt, getElem!_pos _ k hlt]
    have hsplit : ids = ids.take k ++ ids[k]! :: ids.drop (k + 1) := by
      conv => lhs; rw [← List.take_append_drop k ids, List.drop_eq_getElem_cons hlt]
      rw [getElem!_pos _ k hlt]
    have hmeas : k + 1 ≤ ids.length := hlt
    have HTK := Lib.hid htk
    have HSP := Lib.hid hsplit
    clear htk hsplit
    generalize ids[k]! = id at *
    obtain ⟨hit, rfl⟩ := Sp.Pl.find_mem hf
    clear hv
    refine wpN_seq_k ?_
    intro K hK
    go_wp2_with fail
    refine wpN_seq_k ?_
    intro K hK
    go_wp2_with fail
    refine wpN_seq ?_
    refine wpN_block ?_
    refine wpN_seq_k ?_
    intro K hK
    go_wp2_with fail
    obtain ⟨c0, c1, c2, c3, c4, c5', c6, c7'⟩ := hkp.cells
    have cp := hkp.pins hit
    have hlk := (hkp.keep (w' := wr.drew) (Nat.le_refl _) (fun _ _ => rfl)).look hid hf
    have hlt9 := hkp.wf.idx_lt hit
    have hn64 := hkp.wf.n64
    have hS := Lib.hid (⟨c4, c6, hlk, cp⟩ : wr.drew.cell? ⟨gp, 4, none⟩ = some (.slice (some ⟨fb, 0, none⟩) p.n p.n) ∧ wr.drew.cell? ⟨gp, 6, none⟩ = some (.map (some mb)) ∧
      (Instr.lookup 81 (.map (some mb)) (u32v it.page.id) false).run Tryz.prog wr.drew = .ok (.int .i64 it.idx) wr.drew ∧ wr.drew.cell? ⟨fb, it.idx * 9 + 6, none⟩ = some (.int .i64 it.pins))
    have HKP := Lib.hid hkp
    clear c0 c1 c2 c3 c4 c5' c6 c7' cp hlk hkp hck
    refine wpN_seq_k ?_
    intro K hK
    go_wp2_with fail
    refine R_begin (fun W => W.cell? ⟨gp, 4, none⟩ = some (.slice (some ⟨fb, 0, none⟩) p.n p.n) ∧ W.cell? ⟨gp, 6, none⟩ = some (.map (some mb)) ∧
      (Instr.lookup 81 (.map (some mb)) (u32v it.page.id) false).run Tryz.prog W = .ok (.int .i64 it.idx) W ∧ W.cell? ⟨fb, it.idx * 9 + 6, none⟩ = some (.int .i64 it.pins)) (fun _ => false) rfl ?_
    refine R_take 0 26 (v := ?_) rfl rfl (by rfl) (by kernel_rfl) (fun _ _ _ h => h) hS.out ?_ ?_
    rotate_left
    · intro w hSw; (try dsimp only at hSw); go_simp; (try with_reducible rfl)
    simp only [List.setIfInBounds_toArray, List.set_cons_zero, List.set_cons_succ]
    refine R_take 1 27 (v := ?_) rfl rfl (by rfl) (by kernel_rfl) (fun _ _ _ h => h) hS.out ?_ ?_
    rotate_left
    · intro w hSw; (try dsimp only at hSw); go_simp; (try with_reducible rfl)
    simp only [List.setIfInBounds_toArray, List.set_cons_zero, List.set_cons_succ]
    refine R_take 2 28 (v := ?_) rfl rfl (by rfl) (by kernel_rfl) (fun _ _ _ h => h) hS.out ?_ ?_
    rotate_left
    · intro w hSw; (try dsimp only at hSw); go_simp; (try with_reducible rfl)
    simp only [List.setIfInBounds_toArray, List.set_cons_zero, List.set_cons_succ]
    refine R_take 3 29 (v := ?_) rfl rfl (by rfl) (by kernel_rfl) (fun _ _ _ h => h) hS.out ?_ ?_
    rotate_left
    · intro w hSw; (try dsimp only at hSw); go_simp; (try with_reducible rfl)
    simp only [List.setIfInBounds_toArray, List.set_cons_zero, List.set_cons_succ]
    refine R_take 4 30 (v := ?_) rfl rfl (by rfl) (by kernel_rfl) (fun _ _ _ h => h) hS.out ?_ ?_
    rotate_left
    · intro w hSw; (try dsimp only at hSw); go_simp; (try with_reducible rfl)
    simp only [List.setIfInBounds_toArray, List.set_cons_zero, List.set_cons_succ]
    refine R_take 5 31 (v := ?_) rfl rfl (by rfl) (by kernel_rfl) (fun _ _ _ h => h) hS.out ?_ ?_
    rotate_left
    · intro w hSw; (try dsimp only at hSw); go_simp; (try with_reducible rfl)
    simp only [List.setIfInBounds_toArray, List.set_cons_zero, List.set_cons_succ]
    refine R_take 6 32 (v := ?_) rfl rfl (by rfl) (by kernel_rfl) (fun _ _ _ h => h) hS.out ?_ ?_
    rotate_left
    · intro w hSw; (try dsimp only at hSw); go_simp; (try with_reducible rfl)
    simp only [List.setIfInBounds_toArray, List.set_cons_zero, List.set_cons_succ]
    refine R_take 7 33 (v := ?_) rfl rfl (by rfl) (by kernel_rfl) (fun _ _ _ h => h) hS.out ?_ ?_
    rotate_left
    · intro w hSw; (try dsimp only at hSw); go_simp; (try with_reducible rfl)
    simp only [List.setIfInBounds_toArray, List.set_cons_zero, List.set_cons_succ]
    refine R_take 8 34 (v := ?_) rfl rfl (by rfl) (by kernel_rfl) (fun _ _ _ h => h) hS.out ?_ ?_
    rotate_left
    · intro w hSw; (try dsimp only at hSw); go_simp; (try with_reducible rfl)
    simp only [List.setIfInBounds_toArray, List.set_cons_zero, List.set_cons_succ]
    refine R_take 9 35 (v := ?_) rfl rfl (by rfl) (by kernel_rfl) (fun _ _ _ h => h) hS.out ?_ ?_
    rotate_left
    · intro w hSw; (try dsimp only at hSw); go_simp; (try with_reducible rfl)
    simp only [List.setIfInBounds_toArray, List.set_cons_zero, List.set_cons_succ]
    refine R_take 10 36 (v := ?_) rfl rfl (by rfl) (by kernel_rfl) (fun _ _ _ h => h) hS.out ?_ ?_
    rotate_left
    · intro w hSw; (try dsimp only at hSw); go_simp; (try with_reducible rfl)
    simp only [List.setIfInBounds_toArray, List.set_cons_zero, List.set_cons_succ]
    refine R_take 11 37 (v := ?_) rfl rfl (by rfl) (by kernel_rfl) (fun _ _ _ h => h) hS.out ?_ ?_
    rotate_left
    · intro w hSw; (try dsimp only at hSw); go_simp; (try with_reducible rfl)
    simp only [List.setIfInBounds_toArray, List.set_cons_zero, List.set_cons_succ]
    refine R_take 12 38 (v := ?_) rfl rfl (by rfl) (by kernel_rfl) (fun _ _ _ h => h) hS.out ?_ ?_
    rotate_left
    · intro w hSw; (try dsimp only at hSw); go_simp; (try with_reducible rfl)
    simp only [List.setIfInBounds_toArray, List.set_cons_zero, List.set_cons_succ]
    refine R_take 13 39 (v := .bool (decide (0 < it.pins))) rfl rfl (by rfl) (by kernel_rfl) (fun _ _ _ h => h) hS.out ?_ ?_
    · intro w hSw; (try dsimp only at hSw); go_simp
    simp only [List.setIfInBounds_toArray, List.set_cons_zero, List.set_cons_succ]
    refine R_done (by kernel_rfl) ?_ _
    rename_i K9 hK9
    refine hK9 _ _ ?_
    have htd := htr.drew
    have hkd := HKP.out.keep (w' := wr.drew) (Nat.le_refl _) (fun _ _ => rfl)
    clear hS HKP htr
    generalize wr.drew = wd at *
    have HKD := Lib.hid hkd
    clear hkd
    go_wp2_with fail
    · rename_i hp
      refine wpN_of_wp ?_
      go_wp2_with fail
      refine ⟨⟨k + 1, hmeas, ⟨_, _, _, _, _, _, _, _, _, _, _, _, _, _, _, _, _, _, _, rfl⟩, htd, fun n hn => ?_⟩, by simp [intOf]; omega⟩
      rw [HTK.out] at hn
      rcases List.mem_append.1 hn with hn | hn
      · exact hpre n hn
      · rw [List.mem_singleton.1 hn]
        exact ⟨it, hf, hp⟩
    · rename_i hp
      have hp0 : it.pins = 0 := by omega
      have HDD := Lib.hid (HD.out it hit hp0 wd HKD.out htd)
      clear HD HKD
      refine wpN_seq_k ?_
      intro K hK
      go_wp2_with fail
      refine HDD.out.mono ?_
      rintro e w1 ⟨rfl, F', v', s', r', cs', h1, hX⟩
      rw [hfree, List.nil_append] at h1
      go_wp2_with fail
      obtain ⟨c0, c1, c2, c3, c4, c5', c6, c7'⟩ := h1.cells
      have hc1 := h1.chan
      have hch := h1.chans (fl' := []) (s' := s') (r' := r' + 1)
      change IsPlAt _ _ (w1.setChan cb p.n _ _ _ _ _) _ _ _ _ _ _ _ _ _ _ _ _ _ _ _ at hch
      have hgr := grown_setChan w1 cb p.n (([] : List Nat).map fun (i : Nat) => Value.int .i64 (i : Int)).toArray false s' (r' + 1) false
      have ht9 := (Turns.refl (only cb) w1).grown hgr (fun k hk => .inl (by injection hk with hk; exact hk.symm))
      have HCH := Lib.hid hch
      clear c0 c1 c2 c3 c4 c6 c7' hch hgr h1
      refine wpN_seq ?_
      refine wpN_region ?_
      change wpT _ _ _ [0, 1, 2, 3, 4, 5, 6] _ _
      refine T_value 0 46 (v := ptr gp) (w' := w1) rfl rfl (by rfl) (by go_simp) ?_
      simp only [List.setIfInBounds_toArray, List.set_cons_zero, List.set_cons_succ]
      refine T_value 1 47 (v := ptr gp) (w' := w1) rfl rfl (by rfl) (by go_simp) ?_
      simp only [List.setIfInBounds_toArray, List.set_cons_zero, List.set_cons_succ]
      refine T_value 2 48 (v := .pointer (some ⟨gp, 5, none⟩)) (w' := w1) rfl rfl (by rfl) (by go_simp) ?_
      simp only [List.setIfInBounds_toArray, List.set_cons_zero, List.set_cons_succ]
      refine T_value 3 49 (v := .chan (some cb)) (w' := w1) rfl rfl (by rfl) (by go_simp) ?_
      simp only [List.setIfInBounds_toArray, List.set_cons_zero, List.set_cons_succ]
      refine T_recv 4 50 (c := cb) (cap := p.n) (buf := ([it.idx].map fun (i : Nat) => Value.int .i64 (i : Int)).toArray) (s := s') (r := r') (closed := false) (tm := false) (z := .int .i64 0) (w' := w1) rfl rfl (by rfl) ?_ hc1 (by simp) ?_
      · go_simp
        rfl
      simp only [List.setIfInBounds_toArray, List.set_cons_zero, List.set_cons_succ]
      obtain ⟨e1, e2⟩ := chan_pop it.idx []
      rw [e1, e2]
      clear e1 e2 hc1 c5'
      generalize w1.setChan cb p.n (([] : List Nat).map fun (i : Nat) => Value.int .i64 (i : Int)).toArray false s' (r' + 1) false = w9 at *
      refine T_value 5 2 (v := .int .i64 it.idx) (w' := w9) rfl rfl (by rfl) (by go_simp) ?_
      simp only [List.setIfInBounds_toArray, List.set_cons_zero, List.set_cons_succ]
      refine T_value 6 3 (v := .int .i64 0) (w' := w9) rfl rfl (by rfl) (by go_simp) ?_
      simp only [List.setIfInBounds_toArray, List.set_cons_zero, List.set_cons_succ]
      refine T_done ?_
      simp only [Exit.then]
      refine wpN_of_wp ?_
      go_wp2_with fail
      go_ret2
      exact .inr ⟨ids.take k, it, ids.drop (k + 1), HSP.out, hpre, hf, hp0, rfl, wd, w1, F', v', s', r' + 1, cs', htd, hX, HCH.out, ht9⟩
  · obtain rfl : k = ids.length := by omega
    rw [List.take_length] at hpre
    clear hkp
    refine wpN_seq_k ?_
    intro K hK
    go_wp2_with fail
    refine wpN_seq_k ?_
    intro K hK
    go_wp2_with fail
    refine wpN_of_wp ?_
    go_wp2_with fail
    go_ret2
    exact .inl ⟨rfl, hpre, htr⟩
end Go.Proofs.YtbpjgdbkmnhnmaaGreat

/- The walks of package pool: brings. -/
namespace Go.Proofs.YtbpjgdbkmnhnmaaGreat
open Go.RowKit Go.Conc

abbrev pgCs (x : Sp.Pg) (A : Option Addr) (c : Nat) : Array Value := #[.int .u8 x.kind, .int .u8 x.level, .int .u32 x.id, .int .u64 x.lsn, .int .u32 x.next, .slice A x.rows.length c]

/-- What brings asks of take: a frame, and what Z says; or none. -/
def TookPost (Z : Nat → Sp.Pl → List Nat → Foot → World → Prop) (Z4 : World → Prop) (H R : Foot) (w : World) (gp gd gl at_ base fb cb mb id : Nat) (e : Ending) (w' : World) : Prop :=
  (e = .returned (.tuple #[.int .i64 0, .int .i64 4]) ∧ Z4 w' ∧ Turns H H w w') ∨
  ∃ (i : Nat) (p' : Sp.Pl) (F' H' : Foot) (v' : Value) (s' r' : Nat) (cs' : Array Value) (ids' rest : List Nat), e = .returned (.tuple #[.int .i64 i, .int .i64 0]) ∧ IsPlAt F' R w' gp gd gl at_ base fb cb mb v' s' r' cs' rest ids' p' ∧ p'.free = i :: rest ∧ p'.find id = none ∧ Turns H H' w w' ∧ (∀ b, F' b → H' b) ∧ Z i p' ids' H' w'

def BringPost (Z : Nat → Sp.Pl → List Nat → Foot → World → Prop) (Z4 : World → Prop) (H R G : Foot) (w : World) (gp gd gl at_ base fb cb mb : Nat) (x : Sp.Pg) (e : Ending) (w' : World) : Prop :=
  (e = .returned (.int .i64 4) ∧ Z4 w' ∧ Turns H H w w') ∨
  ∃ (i : Nat) (p' : Sp.Pl) (F' H' : Foot) (v' : Value) (s' r' : Nat) (cs' : Array Value) (ids' rest : List Nat) (w2 : World), e = .returned (.int .i64 0) ∧ IsPlAt (fun b => F' b ∨ G b) (fun b => R b ∨ G b) w' gp gd gl at_ base fb cb mb v' s' r' cs' rest ids' (p'.bring x i rest) ∧ p'.free = i :: rest ∧ p'.find x.id = none ∧ Turns H H' w w2 ∧ (∀ b, F' b → H' b) ∧ Z i p' ids' H' w2 ∧ Turns F' F' w2 w'

set_option maxRecDepth 100000 in
set_option maxHeartbeats 4000000 in
theorem pool_brings {H R G : Foot} {w : World} {gp gd gl at_ base fb cb mb : Nat} {x : Sp.Pg} {A : Option Addr} {c : Nat} (hx : x.wf ∧ x.may) (hA : OkAddr A) (hR : RowsAt G w A x.rows) (hG : ∀ b, G b → ¬ H b ∧ b < w.heap.size) (hH : ∀ b, H b → b < w.heap.size)
    (Z : Nat → Sp.Pl → List Nat → Foot → World → Prop) (Z4 : World → Prop)
    (hT : Calls Tryz.prog 87 #[ptr gp] (w.alloc (.cells (pgCs x A c) 30)) (TookPost Z Z4 H R (w.alloc (.cells (pgCs x A c) 30)) gp gd gl at_ base fb cb mb x.id)) :
    Calls Tryz.prog 36 #[ptr gp, pgV x A c] w (BringPost Z Z4 H R G w gp gd gl at_ base fb cb mb x) := by
  have HT := Lib.hid hT
  have hb0 := Blk.new w 30 (pgCs x A c)
  have hR0 := Reads.below hR ((Below.refl w.heap.size w).alloc (Nat.le_refl _) (.cells (pgCs x A c) 30))
  have ht0 := (Turns.refl H w).alloc (.cells (pgCs x A c) 30)
  clear hT hR
  go_enter Tryz.func36, Tryz.ntmps36
  go_wp2_with fail
  obtain ⟨w1, hw1⟩ : ∃ w1, w1 = w.alloc (.cells (pgCs x A c) 30) := ⟨_, rfl⟩
  rw [← hw1] at HT hb0 hR0 ht0 ⊢
  obtain ⟨g3, hg3⟩ : ∃ g, g = w.heap.size := ⟨_, rfl⟩
  have hg3l : w.heap.size ≤ g3 := by omega
  rw [← hg3] at hb0 ⊢
  clear hw1 hg3
  refine HT.out.mono ?_
  rintro e w2 (⟨rfl, hz, htz⟩ | ⟨i, p', F', H', v', s', r', cs', ids', rest, rfl, h2, hfree, hnone, ht2, hF', hZ⟩)
  · go_wp2_with fail
    go_ret
    exact .inl ⟨rfl, hz, ht0.trans htz⟩
  have hnH : ¬ H g3 := fun h => by have := hH g3 h; omega
  have hb2 := hb0.turns ht2 hnH
  have hR2 := hR0.keep ht2.size (fun b hb => ht2.block b (by have := (hG b hb).2; have := ht0.size; omega) (hG b hb).1)
  have hGF : ∀ b, G b → ¬ F' b ∧ b < w2.heap.size := fun b hb => by
    have h1 := hG b hb
    have h2 := ht0.size
    have h3 := ht2.size
    refine ⟨fun hf => ?_, by omega⟩
    rcases ht2.foot b (hF' b hf) with h | h
    · exact h1.1 h
    · omega
  have hg3F : ¬ F' g3 := fun hf => by
    have := hb0.lt
    rcases ht2.foot g3 (hF' g3 hf) with h | h
    · exact hnH h
    · omega
  have hlt9 := h2.wf.free_lt (i := i) (by rw [hfree]; simp)
  have hn64 := h2.wf.n64
  have hlen := h2.wf.len
  obtain ⟨c0, c1, c2, c3, c4, c5, c6, c7⟩ := h2.cells
  have hcs := h2.fr.size
  have hB2 := h2.fr.blk
  have H2 := Lib.hid h2
  have hS := Lib.hid (⟨c4, hb2⟩ : w2.drew.cell? ⟨gp, 4, none⟩ = some (.slice (some ⟨fb, 0, none⟩) p'.n p'.n) ∧ Blk w2.drew g3 30 (pgCs x A c))
  clear c0 c1 c2 c3 c4 c5 c6 c7 h2 HT hb0 hR0
  go_wp2_with fail
  refine R_begin (fun W => W.cell? ⟨gp, 4, none⟩ = some (.slice (some ⟨fb, 0, none⟩) p'.n p'.n) ∧ Blk W g3 30 (pgCs x A c)) (fun j => j == 8) rfl ?_
  refine R_take 0 15 (v := ?_) rfl rfl (by rfl) (by kernel_rfl) (fun _ _ _ h => h) hS.out ?_ ?_
  rotate_left
  · intro w hSw; (try dsimp only at hSw); go_simp; (try with_reducible rfl)
  simp only [List.setIfInBounds_toArray, List.set_cons_zero, List.set_cons_succ]
  refine R_take 1 16 (v := ?_) rfl rfl (by rfl) (by kernel_rfl) (fun _ _ _ h => h) hS.out ?_ ?_
  rotate_left
  · intro w hSw; (try dsimp only at hSw); go_simp; (try with_reducible rfl)
  simp only [List.setIfInBounds_toArray, List.set_cons_zero, List.set_cons_succ]
  refine R_take 2 17 (v := ?_) rfl rfl (by rfl) (by kernel_rfl) (fun _ _ _ h => h) hS.out ?_ ?_
  rotate_left
  · intro w hSw; (try dsimp only at hSw); go_simp; (try with_reducible rfl)
  simp only [List.setIfInBounds_toArray, List.set_cons_zero, List.set_cons_succ]
  refine R_take 3 18 (v := ?_) rfl rfl (by rfl) (by kernel_rfl) (fun _ _ _ h => h) hS.out ?_ ?_
  rotate_left
  · intro w hSw; (try dsimp only at hSw); go_simp; (try with_reducible rfl)
  simp only [List.setIfInBounds_toArray, List.set_cons_zero, List.set_cons_succ]
  refine R_take 4 19 (v := ?_) rfl rfl (by rfl) (by kernel_rfl) (fun _ _ _ h => h) hS.out ?_ ?_
  rotate_left
  · intro w hSw; (try dsimp only at hSw); go_simp; (try with_reducible rfl)
  simp only [List.setIfInBounds_toArray, List.set_cons_zero, List.set_cons_succ]
  refine R_take 5 20 (v := pgV x A c) rfl rfl (by rfl) (by kernel_rfl) (fun _ _ _ h => h) hS.out ?_ ?_
  · intro w hSw
    exact run_op_load _ _ _ rfl rfl (run_loadVar_row w g3 _ _ _ _ _ hSw.2 Tryz.underlying30 rfl rfl)
  simp only [List.setIfInBounds_toArray, List.set_cons_zero, List.set_cons_succ]
  refine R_take 6 21 (v := .agg (frCells ⟨x, 0, false, 0, i⟩ A c).toArray) rfl rfl (by rfl) (by kernel_rfl) (fun _ _ _ h => h) hS.out ?_ ?_
  · intro w hSw
    go_simp
    rfl
  simp only [List.setIfInBounds_toArray, List.set_cons_zero, List.set_cons_succ]
  refine R_take 7 22 (v := ?_) rfl rfl (by rfl) (by kernel_rfl) (fun _ _ _ h => h) hS.out ?_ ?_
  rotate_left
  · intro w hSw; (try dsimp only at hSw); go_simp; (try with_reducible rfl)
  simp only [List.setIfInBounds_toArray, List.set_cons_zero, List.set_cons_succ]
  refine R_store 8 (n := .skip) (w' := w2.drew.setRow fb (partRow cs' (i * 9) (frCells ⟨x, 0, false, 0, i⟩ A c))) rfl rfl (by rfl) (by kernel_rfl) (run_op_store _ _ _ _ _ rfl rfl rfl (run_storeVar_part w2.drew fb (i * 9) _ _ cs' (frCells ⟨x, 0, false, 0, i⟩ A c).toArray hB2 fr_size (by rw [hcs]; show i * 9 + 9 ≤ p'.n * 9; omega) (frCells_one _ A c))) (.inl rfl) (fun h => nomatch h) ?_
  refine R_done (by kernel_rfl) ?_ _
  rename_i K9 hK9
  refine hK9 _ _ ?_
  obtain ⟨f1, f2, f3, f4, f5⟩ := H2.out.foot
  obtain ⟨n1, n2, n3, n4, n5, n6⟩ := H2.out.ne
  have hB4 := Blk.setRow (w := w2.drew) hB2 (partRow cs' (i * 9) (frCells ⟨x, 0, false, 0, i⟩ A c))
  have hk4 : ∀ b, b ≠ fb → (w2.drew.setRow fb (partRow cs' (i * 9) (frCells ⟨x, 0, false, 0, i⟩ A c))).heap[b]? = w2.heap[b]? := fun b hb => setRow_other w2.drew fb b _ hb
  have ht4 := (Turns.refl F' w2).drew.setRow (g := fb) (.inl f2) (partRow cs' (i * 9) (frCells ⟨x, 0, false, 0, i⟩ A c))
  have hg3b : g3 ≠ fb := fun e => hg3F (e ▸ f2)
  have hb4 := hb2.keep (hk4 g3 hg3b)
  have hP4 := H2.out.blk.keep (hk4 gp n1)
  have hM4 := H2.out.map.keep (hk4 mb (Ne.symm n5))
  obtain ⟨w4, hw4⟩ : ∃ w4, w4 = w2.drew.setRow fb (partRow cs' (i * 9) (frCells ⟨x, 0, false, 0, i⟩ A c)) := ⟨_, rfl⟩
  rw [← hw4] at hB4 hk4 ht4 hb4 hP4 hM4 ⊢
  clear hw4 hS
  have c6 := hP4.cell 6
  have ci := hb4.cell 2
  simp only [plCells, pgCs, List.getElem?_toArray, List.getElem?_cons_succ, List.getElem?_cons_zero] at c6 ci
  have hS := Lib.hid (⟨c6, ci⟩ : w4.drew.cell? ⟨gp, 6, none⟩ = some (.map (some mb)) ∧ w4.drew.cell? ⟨g3, 2, none⟩ = some (u32v x.id))
  have hid : x.id < 4294967296 := hx.1.2.2.1
  clear c6 ci
  go_wp2_with fail
  refine R_begin (fun W => W.cell? ⟨gp, 6, none⟩ = some (.map (some mb)) ∧ W.cell? ⟨g3, 2, none⟩ = some (u32v x.id)) (fun j => j == 7) rfl ?_
  refine R_take 0 23 (v := ?_) rfl rfl (by rfl) (by kernel_rfl) (fun _ _ _ h => h) hS.out ?_ ?_
  rotate_left
  · intro w hSw; (try dsimp only at hSw); go_simp; (try with_reducible rfl)
  simp only [List.setIfInBounds_toArray, List.set_cons_zero, List.set_cons_succ]
  refine R_take 1 24 (v := ?_) rfl rfl (by rfl) (by kernel_rfl) (fun _ _ _ h => h) hS.out ?_ ?_
  rotate_left
  · intro w hSw; (try dsimp only at hSw); go_simp; (try with_reducible rfl)
  simp only [List.setIfInBounds_toArray, List.set_cons_zero, List.set_cons_succ]
  refine R_take 2 25 (v := ?_) rfl rfl (by rfl) (by kernel_rfl) (fun _ _ _ h => h) hS.out ?_ ?_
  rotate_left
  · intro w hSw; (try dsimp only at hSw); go_simp; (try with_reducible rfl)
  simp only [List.setIfInBounds_toArray, List.set_cons_zero, List.set_cons_succ]
  refine R_take 3 26 (v := ?_) rfl rfl (by rfl) (by kernel_rfl) (fun _ _ _ h => h) hS.out ?_ ?_
  rotate_left
  · intro w hSw; (try dsimp only at hSw); go_simp; (try with_reducible rfl)
  simp only [List.setIfInBounds_toArray, List.set_cons_zero, List.set_cons_succ]
  refine R_take 4 27 (v := ?_) rfl rfl (by rfl) (by kernel_rfl) (fun _ _ _ h => h) hS.out ?_ ?_
  rotate_left
  · intro w hSw; (try dsimp only at hSw); go_simp; (try with_reducible rfl)
  simp only [List.setIfInBounds_toArray, List.set_cons_zero, List.set_cons_succ]
  refine R_take 5 28 (v := ?_) rfl rfl (by rfl) (by kernel_rfl) (fun _ _ _ h => h) hS.out ?_ ?_
  rotate_left
  · intro w hSw; (try dsimp only at hSw); go_simp; (try with_reducible rfl)
  simp only [List.setIfInBounds_toArray, List.set_cons_zero, List.set_cons_succ]
  refine R_take 6 29 (v := ?_) rfl rfl (by rfl) (by kernel_rfl) (fun _ _ _ h => h) hS.out ?_ ?_
  rotate_left
  · intro w hSw; (try dsimp only at hSw); go_simp; (try with_reducible rfl)
  simp only [List.setIfInBounds_toArray, List.set_cons_zero, List.set_cons_succ]
  obtain ⟨w5, hput, hM5, hg5⟩ := UMap.put (w := w4.drew) hM4.drew Tryz.underlying26 Tryz.underlying3 Tryz.underlying81 (by omega) hid (i := i) (by omega) (by simp [Sp.Pl.lk, hnone])
  refine R_store 7 (n := .skip) (w' := w5) rfl rfl (by rfl) (by kernel_rfl) (by go_simp) (.inl rfl) (fun h => nomatch h) ?_
  refine R_done (by kernel_rfl) ?_ _
  rename_i K8 hK8
  refine hK8 _ _ ?_
  have ht5 := ht4.drew.grown hg5 (fun k hk => .inl (by injection hk with hk; rw [← hk]; exact f4))
  have hB5 := hB4.drew.grown hg5 (fun e => n5 (by injection e))
  have hsz9 : i * 9 + 9 ≤ cs'.size := by omega
  have hR5 := hR2.keep ht5.size (fun b hb => (ht5.block b (hGF b hb).2 (hGF b hb).1))
  have hbr := H2.out.bring (w' := w5) (x := x) (A := A) (c := c) (G := G) hfree hnone hx ht5.size (fun b hb h1 h2 => (hg5.block b (by have := H2.out.lt b hb; have := ht4.size; simp; omega) (fun e => h2 (by injection e))).trans (hk4 b h1)) hB5 (Framed.part rfl hsz9) hA hR5 (fun b hb => ⟨(hGF b hb).1, Nat.lt_of_lt_of_le (hGF b hb).2 ht5.size⟩) (fun j hj => part_at rfl hsz9 hj) hM5
  have HB := Lib.hid hbr
  clear hbr hg5 hput hM5 hM4 hP4 hB4 hB5 hk4 H2 hS
  go_wp2_with fail
  go_ret
  refine .inr ⟨i, p', F', H', v', s', r', _, ids', rest, w2, rfl, HB.out, hfree, hnone, ?_, hF', hZ, ht5⟩
  exact ht0.trans ht2
end Go.Proofs.YtbpjgdbkmnhnmaaGreat

/- The walks of package pool: Pin of a page that is in. -/
namespace Go.Proofs.YtbpjgdbkmnhnmaaGreat
open Go.RowKit Go.Conc

theorem Turns.then_new {F F' X : Foot} {w w1 w2 : World} {g : Nat} (h : Turns F F' w w1) (k : Turns (only g) X w1 w2) (hg : w.heap.size ≤ g) : Turns F F' w w2 :=
  ⟨k.os.trans h.os, k.tape.trans h.tape, k.output.trans h.output, Nat.le_trans h.size k.size, fun b hb hn => (k.block b (Nat.lt_of_lt_of_le hb h.size) (fun e => by have e : b = g := e; omega)).trans (h.block b hb hn), h.foot⟩

def PinInPost (F R : Foot) (w : World) (gp gd gl at_ base fb cb mb s r : Nat) (fl ids : List Nat) (p : Sp.Pl) (it : Sp.It) (e : Ending) (w' : World) : Prop :=
  ∃ F' v' cs' A c, e = .returned (.tuple #[pgV it.page A c, .int .i64 0]) ∧ OkAddr A ∧ RowsAt (fun b => w.heap.size ≤ b) w' A it.page.rows ∧
    IsPlAt F' R w' gp gd gl at_ base fb cb mb v' s r cs' fl (ids.filter (fun x => !(x == it.page.id)) ++ [it.page.id]) (p.pinUp it.page.id) ∧ Turns F F' w w'

set_option maxRecDepth 100000 in
set_option maxHeartbeats 2000000 in
theorem pool_pin_in {F R : Foot} {w : World} {gp gd gl at_ base fb cb mb s r : Nat} {v : Value} {cs : Array Value} {fl ids : List Nat} {p : Sp.Pl} (h : IsPlAt F R w gp gd gl at_ base fb cb mb v s r cs fl ids p) {id : Nat} (hid : id < 4294967296) {it : Sp.It} (hf : p.find id = some it) (hp : it.pins < 1000000000) (hl : ids.length ≤ 64) :
    Calls Tryz.prog 9 #[ptr gp, u32v id] w (PinInPost F R w gp gd gl at_ base fb cb mb s r fl ids p it) := by
  obtain ⟨hit, rfl⟩ := Sp.Pl.find_mem hf
  have hb2 := Blk.new w 30 #[.int .u8 0, .int .u8 0, .int .u32 0, .int .u64 0, .int .u32 0, .slice none 0 0]
  have h2 := h.keep (w' := w.alloc (.cells #[.int .u8 0, .int .u8 0, .int .u32 0, .int .u64 0, .int .u32 0, .slice none 0 0] 30)) (by simp) (fun b hb => Below.heap_alloc w _ b (h.lt b hb))
  have ht0 := (Turns.refl F w).alloc (.cells #[.int .u8 0, .int .u8 0, .int .u32 0, .int .u64 0, .int .u32 0, .slice none 0 0] 30)
  have hg4 : ¬ F w.heap.size := fun hF => by have := h.lt _ hF; omega
  obtain ⟨c0, c1, c2, c3, c4, c5, c6, c7⟩ := h2.cells
  have HM := Lib.hid (pool_made c6)
  have hlk := h2.look_in hid hf
  have HPN := Lib.hid (pool_pins_walk h2 hid hf hp hl)
  have hlt9 := h2.wf.idx_lt hit
  have hn64 := h2.wf.n64
  clear h2 c0 c1 c2 c3 c4 c5 c7 h
  go_enter Tryz.func9, Tryz.ntmps9
  go_wp2_with fail
  have hg4l : w.heap.size ≤ w.heap.size := Nat.le_refl _
  obtain ⟨w2, hw2⟩ : ∃ w2, w2 = w.alloc (.cells #[.int .u8 0, .int .u8 0, .int .u32 0, .int .u64 0, .int .u32 0, .slice none 0 0] 30) := ⟨_, rfl⟩
  rw [← hw2] at HM HPN hlk hb2 ht0 c6 ⊢
  obtain ⟨g4, hg⟩ : ∃ g, g = w.heap.size := ⟨_, rfl⟩
  rw [← hg] at hb2 hg4 ⊢
  have hg4l : w.heap.size ≤ g4 := by omega
  clear hw2 hg
  refine HM.out.mono ?_
  rintro e w1 ⟨rfl, hw⟩
  subst w1
  go_wp2_with fail
  refine (HPN.out).mono ?_
  rintro e w3 ⟨F3, v3, cs3, rfl, h3, ht3⟩
  have hit3 : ({ it with pins := it.pins + 1 } : Sp.It) ∈ (p.pinUp it.page.id).items := List.mem_map.2 ⟨it, hit, by simp⟩
  obtain ⟨A, c, hA, hR, hc⟩ := h3.fr.item _ hit3
  have k0 := (h3.fr.blk.cell _).trans (hc 0 (by omega))
  have k1 := (h3.fr.blk.cell _).trans (hc 1 (by omega))
  have k2 := (h3.fr.blk.cell _).trans (hc 2 (by omega))
  have k3 := (h3.fr.blk.cell _).trans (hc 3 (by omega))
  have k4 := (h3.fr.blk.cell _).trans (hc 4 (by omega))
  have k5 := (h3.fr.blk.cell _).trans (hc 5 (by omega))
  simp only [frCells, List.getElem?_cons_succ, List.getElem?_cons_zero, Nat.add_zero] at k0 k1 k2 k3 k4 k5
  have hlr : it.page.rows.length ≤ 1000000 := by
    have := (h3.wf.pg _ hit3).2.2.2.2.2
    have : 4 * it.page.rows.length + Sp.total it.page.rows ≤ 484 := this
    omega
  have HCP := Lib.hid (pool_copied (c := c) hA hR hlr)
  have hg42 := hb2.lt
  have hb3 := hb2.turns ht3 hg4
  have H3 := Lib.hid h3
  clear hA hR hc h3 hb2 HPN
  go_wp2_with fail
  refine HCP.out.mono ?_
  rintro e w4 ⟨A', c', rfl, hA', hR', hb4⟩
  have hB4 := hb3.below hb4 hb3.lt
  have z0 := hB4.cell 0
  have z1 := hB4.cell 1
  have z2 := hB4.cell 2
  have z3 := hB4.cell 3
  have z4 := hB4.cell 4
  have z5 := hB4.cell 5
  have f0 := hB4.frozen 0
  have f1 := hB4.frozen 1
  have f2 := hB4.frozen 2
  have f3 := hB4.frozen 3
  have f4 := hB4.frozen 4
  have f5 := hB4.frozen 5
  simp only [List.getElem?_toArray, List.getElem?_cons_succ, List.getElem?_cons_zero] at z0 z1 z2 z3 z4 z5
  have h4 := H3.out.keep hb4.size (fun b hb => hb4.block b (H3.out.lt b hb))
  have HR := Lib.hid hR'
  have HA := Lib.hid hA'
  have H4 := Lib.hid h4
  have ht4 := ht3.next hb4
  have HB4 := Lib.hid hB4
  have hg4k := hb3.lt
  clear hR' hA' h4 hB4 H3 HCP k0 k1 k2 k3 k4 k5 hb3
  go_wp2_with fail
  obtain ⟨W8, hW8, hX8, ht8, hk8⟩ := six_set HB4.out (.int .u8 it.page.kind) (.int .u8 it.page.level) (.int .u32 it.page.id) (.int .u64 it.page.lsn) (.int .u32 it.page.next) (.slice A' it.page.rows.length c')
  rw [hW8]
  have z0 := hX8.cell 0
  have z1 := hX8.cell 1
  have z2 := hX8.cell 2
  have z3 := hX8.cell 3
  have z4 := hX8.cell 4
  have z5 := hX8.cell 5
  simp only [List.getElem?_toArray, List.getElem?_cons_succ, List.getElem?_cons_zero] at z0 z1 z2 z3 z4 z5
  clear f0 f1 f2 f3 f4 f5 hW8
  refine bodyPost_ret (v := .tuple #[pgV it.page A' c', .int .i64 0]) (by rw [results_cell_tmp rfl]; go_simp) rfl ⟨F3, v3, cs3, A', c', rfl, HA.out, ?_, ?_, ?_⟩
  · have hz2 : w.heap.size ≤ w2.heap.size := ht0.size
    have hz3 := ht3.size
    exact (HR.out.keep ht8.size (fun b hb => hk8 b (fun e => by have hb : w3.heap.size ≤ b := hb; omega))).mono (fun b hb => by have hb : w3.heap.size ≤ b := hb; omega)
  · refine H4.out.keep ht8.size (fun b hb => hk8 b (fun e => ?_))
    rcases ht3.foot b hb with h | h
    · exact hg4 (e ▸ h)
    · omega
  · exact (ht0.trans ht4).then_new ht8 hg4l
end Go.Proofs.YtbpjgdbkmnhnmaaGreat

/- The walks of package pool: Pin of a page that is not in. -/
namespace Go.Proofs.YtbpjgdbkmnhnmaaGreat
open Go.RowKit Go.Conc

/-- the block of a page's rows. -/
def rowOf (w : World) (A : Option Addr) : Foot := fun b => (∃ o, A = some ⟨b, o, none⟩) ∧ b < w.heap.size
theorem rows_tight {G : Foot} {w : World} {A : Option Addr} {rows : List Sp.Bs} (h : RowsAt G w A rows) : RowsAt (fun b => G b ∧ rowOf w A b) w A rows :=
  ⟨h.1, fun hp => by
    obtain ⟨b, o, e, hg, hl, hc⟩ := h.2 hp
    exact ⟨b, o, e, ⟨hg, ⟨o, e⟩, hl⟩, hl, hc⟩⟩

abbrev zeroPgV : Value := .agg #[.int .u8 0, .int .u8 0, .int .u32 0, .int .u64 0, .int .u32 0, .slice none 0 0]
def PinOutPost (Z : Nat → Sp.Pl → List Nat → Foot → World → Prop) (Z4 : World → Prop) (H : Foot) (w : World) (gp gd gl at_ base fb cb mb : Nat) (x : Sp.Pg) (e : Ending) (w' : World) : Prop :=
  (e = .returned (.tuple #[zeroPgV, .int .i64 4]) ∧ ∃ w2 g4, Z4 w2 ∧ w.heap.size ≤ g4 ∧ Turns (only g4) (only g4) w2 w') ∨
  ∃ (i : Nat) (p' : Sp.Pl) (F' H' : Foot) (ids' rest : List Nat) (w2 : World) (F3 R3 : Foot) (v3 : Value) (s3 r3 : Nat) (cs3 : Array Value) (A : Option Addr) (c : Nat), e = .returned (.tuple #[pgV x A c, .int .i64 0]) ∧ OkAddr A ∧ RowsAt (fun b => w.heap.size ≤ b) w' A x.rows ∧
    IsPlAt F3 R3 w' gp gd gl at_ base fb cb mb v3 s3 r3 cs3 rest (ids'.filter (fun y => !(y == x.id)) ++ [x.id]) ((p'.bring x i rest).pinUp x.id) ∧ p'.free = i :: rest ∧ p'.find x.id = none ∧ Z i p' ids' H' w2 ∧ (∀ b, F' b → H' b) ∧ Turns H H' w w2 ∧ (∃ G : Foot, (∀ b, G b → ¬ H' b ∧ w.heap.size ≤ b) ∧ Turns (fun b => F' b ∨ G b) F3 w2 w')

set_option maxRecDepth 100000 in
set_option maxHeartbeats 4000000 in
theorem pool_pin_out {F R H D : Foot} {w : World} {gp gd gl at_ base fb cb mb s r : Nat} {v : Value} {cs : Array Value} {fl ids : List Nat} {p : Sp.Pl} (h : IsPlAt F R w gp gd gl at_ base fb cb mb v s r cs fl ids p) {x : Sp.Pg} (hx : x.wf ∧ x.may) (hf : p.find x.id = none)
    {dk : Sp.Dk} (hdk : IsDk D w gd dk) (hfu : dk.fuse ≠ 0) (hlo : dk.loose = []) (hi : base + x.id * 4 + 4 ≤ dk.sure.length) (hpg : Sp.pageAt dk.sure (base + x.id * 4) = pgBytes x) (hH : ∀ b, H b → b < w.heap.size)
    (Z : Nat → Sp.Pl → List Nat → Foot → World → Prop) (Z4 : World → Prop)
    (hT : ∀ W, Below w.heap.size w W → IsPlAt F R W gp gd gl at_ base fb cb mb v s r cs fl ids p → Calls Tryz.prog 87 #[ptr gp] W (TookPost Z Z4 H R W gp gd gl at_ base fb cb mb x.id))
    (hids : ∀ i p' ids' H' w2, Z i p' ids' H' w2 → ids'.length ≤ 64) :
    Calls Tryz.prog 9 #[ptr gp, u32v x.id] w (PinOutPost Z Z4 H w gp gd gl at_ base fb cb mb x) := by
  have hid : x.id < 4294967296 := hx.1.2.2.1
  have hb2 := Blk.new w 30 #[.int .u8 0, .int .u8 0, .int .u32 0, .int .u64 0, .int .u32 0, .slice none 0 0]
  have hbw := (Below.refl w.heap.size w).alloc (Nat.le_refl _) (.cells #[.int .u8 0, .int .u8 0, .int .u32 0, .int .u64 0, .int .u32 0, .slice none 0 0] 30)
  have h2 := h.keep (w' := w.alloc (.cells #[.int .u8 0, .int .u8 0, .int .u32 0, .int .u64 0, .int .u32 0, .slice none 0 0] 30)) (by simp) (fun b hb => Below.heap_alloc w _ b (h.lt b hb))
  have hd2 := hdk.below hbw
  obtain ⟨c0, c1, c2, c3, c4, c5, c6, c7⟩ := h2.cells
  have HM := Lib.hid (pool_made c6)
  have hlk := h2.look_out hid hf
  have hg4l : w.heap.size ≤ w.heap.size := Nat.le_refl _
  have HT := Lib.hid hT
  have hFl := h.lt
  have hz0 : ∀ W, (Instr.build 30 #[]).run Tryz.prog W = .ok zeroPgV W := fun W => by kernel_rfl
  clear c1 c2 c4 c5 c7 h hT hf hdk
  go_enter Tryz.func9, Tryz.ntmps9
  go_wp2_with fail
  obtain ⟨w2, hw2⟩ : ∃ w2, w2 = w.alloc (.cells #[.int .u8 0, .int .u8 0, .int .u32 0, .int .u64 0, .int .u32 0, .slice none 0 0] 30) := ⟨_, rfl⟩
  rw [← hw2] at HM hlk hb2 hbw c0 c3 c6 h2 hd2 ⊢
  obtain ⟨g4, hg⟩ : ∃ g, g = w.heap.size := ⟨_, rfl⟩
  rw [← hg] at hb2 ⊢
  have hg4l : w.heap.size ≤ g4 := by omega
  clear hw2 hg
  refine HM.out.mono ?_
  rintro e w1 ⟨rfl, hw⟩
  subst w1
  go_wp2_with fail
  have hS := Lib.hid (⟨c0, c3⟩ : w2.drew.cell? ⟨gp, 0, none⟩ = some (ptr gd) ∧ w2.drew.cell? ⟨gp, 3, none⟩ = some (.int .i64 base))
  have HTR := Lib.hid (twin_read (w := w2.drew) (hd2.below (Below.refl _ w2).drew) hfu hlo base x.id hid hi)
  rw [hpg] at HTR
  have H2 := Lib.hid h2
  have hgp0 := h2.blk
  clear c0 c3 c6 h2 HM hlk
  refine R_begin (fun W => W.cell? ⟨gp, 0, none⟩ = some (ptr gd) ∧ W.cell? ⟨gp, 3, none⟩ = some (.int .i64 base)) (fun _ => false) rfl ?_
  refine R_take 0 28 (v := ?_) rfl rfl (by rfl) (by kernel_rfl) (fun _ _ _ h => h) hS.out ?_ ?_
  rotate_left
  · intro w hSw; (try dsimp only at hSw); go_simp; (try with_reducible rfl)
  simp only [List.setIfInBounds_toArray, List.set_cons_zero, List.set_cons_succ]
  refine R_take 1 29 (v := ?_) rfl rfl (by rfl) (by kernel_rfl) (fun _ _ _ h => h) hS.out ?_ ?_
  rotate_left
  · intro w hSw; (try dsimp only at hSw); go_simp; (try with_reducible rfl)
  simp only [List.setIfInBounds_toArray, List.set_cons_zero, List.set_cons_succ]
  refine R_take 2 30 (v := ?_) rfl rfl (by rfl) (by kernel_rfl) (fun _ _ _ h => h) hS.out ?_ ?_
  rotate_left
  · intro w hSw; (try dsimp only at hSw); go_simp; (try with_reducible rfl)
  simp only [List.setIfInBounds_toArray, List.set_cons_zero, List.set_cons_succ]
  refine R_take 3 31 (v := ?_) rfl rfl (by rfl) (by kernel_rfl) (fun _ _ _ h => h) hS.out ?_ ?_
  rotate_left
  · intro w hSw; (try dsimp only at hSw); go_simp; (try with_reducible rfl)
  simp only [List.setIfInBounds_toArray, List.set_cons_zero, List.set_cons_succ]
  refine R_take 4 32 (v := ?_) rfl rfl (by rfl) (by kernel_rfl) (fun _ _ _ h => h) hS.out ?_ ?_
  rotate_left
  · intro w hSw; (try dsimp only at hSw); go_simp; (try with_reducible rfl)
  simp only [List.setIfInBounds_toArray, List.set_cons_zero, List.set_cons_succ]
  refine R_take 5 33 (v := ?_) rfl rfl (by rfl) (by kernel_rfl) (fun _ _ _ h => h) hS.out ?_ ?_
  rotate_left
  · intro w hSw; (try dsimp only at hSw); go_simp; (try with_reducible rfl)
  simp only [List.setIfInBounds_toArray, List.set_cons_zero, List.set_cons_succ]
  refine R_take 6 34 (v := ?_) rfl rfl (by rfl) (by kernel_rfl) (fun _ _ _ h => h) hS.out ?_ ?_
  rotate_left
  · intro w hSw; (try dsimp only at hSw); go_simp; (try with_reducible rfl)
  simp only [List.setIfInBounds_toArray, List.set_cons_zero, List.set_cons_succ]
  refine R_take 7 35 (v := ?_) rfl rfl (by rfl) (by kernel_rfl) (fun _ _ _ h => h) hS.out ?_ ?_
  rotate_left
  · intro w hSw; (try dsimp only at hSw); go_simp; (try with_reducible rfl)
  simp only [List.setIfInBounds_toArray, List.set_cons_zero, List.set_cons_succ]
  refine R_take 8 36 (v := ?_) rfl rfl (by rfl) (by kernel_rfl) (fun _ _ _ h => h) hS.out ?_ ?_
  rotate_left
  · intro w hSw; (try dsimp only at hSw); go_simp; (try with_reducible rfl)
  simp only [List.setIfInBounds_toArray, List.set_cons_zero, List.set_cons_succ]
  refine R_call 9 37 (w' := w2.drew) rfl rfl (by rfl) (by kernel_rfl) ?_ HTR.out ?_
  · go_simp
  rintro e w3 ⟨rfl, hb3⟩
  have hgp3 := hgp0.drew.below hb3 hgp0.lt
  have hS3 : w3.cell? ⟨gp, 0, none⟩ = some (ptr gd) ∧ w3.cell? ⟨gp, 3, none⟩ = some (.int .i64 base) := ⟨(hgp3.cell 0).trans rfl, (hgp3.cell 3).trans rfl⟩
  refine ⟨_, rfl, fun _ => hS3, ?_⟩
  simp only [List.setIfInBounds_toArray, List.set_cons_zero, List.set_cons_succ]
  clear hS HTR
  have hS := Lib.hid hS3
  clear hS3
  refine R_take 10 27 (v := ?_) rfl rfl (by rfl) (by kernel_rfl) (fun _ _ _ h => h) hS.out ?_ ?_
  rotate_left
  · intro w hSw; (try dsimp only at hSw); go_simp; (try with_reducible rfl)
  simp only [List.setIfInBounds_toArray, List.set_cons_zero, List.set_cons_succ]
  refine R_take 11 38 (v := ?_) rfl rfl (by rfl) (by kernel_rfl) (fun _ _ _ h => h) hS.out ?_ ?_
  rotate_left
  · intro w hSw; (try dsimp only at hSw); go_simp; (try with_reducible rfl)
  simp only [List.setIfInBounds_toArray, List.set_cons_zero, List.set_cons_succ]
  refine R_take 12 39 (v := ?_) rfl rfl (by rfl) (by kernel_rfl) (fun _ _ _ h => h) hS.out ?_ ?_
  rotate_left
  · intro w hSw; (try dsimp only at hSw); go_simp; (try with_reducible rfl)
  simp only [List.setIfInBounds_toArray, List.set_cons_zero, List.set_cons_succ]
  refine R_take 13 8 (v := ?_) rfl rfl (by rfl) (by kernel_rfl) (fun _ _ _ h => h) hS.out ?_ ?_
  rotate_left
  · intro w hSw; (try dsimp only at hSw); go_simp; (try with_reducible rfl)
  simp only [List.setIfInBounds_toArray, List.set_cons_zero, List.set_cons_succ]
  refine R_take 14 9 (v := ?_) rfl rfl (by rfl) (by kernel_rfl) (fun _ _ _ h => h) hS.out ?_ ?_
  rotate_left
  · intro w hSw; (try dsimp only at hSw); go_simp; (try with_reducible rfl)
  simp only [List.setIfInBounds_toArray, List.set_cons_zero, List.set_cons_succ]
  refine R_done (by kernel_rfl) ?_ _
  rename_i K9 hK9
  refine hK9 _ _ ?_
  have hbd : Below w2.heap.size w2 w3 := (Below.refl w2.heap.size w2).drew.trans hb3
  have h3 := H2.out.keep hbd.size (fun b hb => hbd.block b (H2.out.lt b hb))
  have hb3' := hb2.below hbd hb2.lt
  have hbw3 : Below w.heap.size w w3 := hbw.trans (hbd.mono hbw.size)
  have HDEC := Lib.hid (page_decode (w := w3) hx.1 hx.2)
  clear hS hgp3 hgp0 H2 hb2 hbw hb3 hbd hpg
  go_wp2_with fail
  refine HDEC.out.mono ?_
  rintro e w4 ⟨A, c, rfl, hA, hR, hb4⟩
  have hg43 := hb3'.lt
  have hs34 := hb4.size
  have hb4' := hb3'.below hb4 hb3'.lt
  have h4 := h3.keep hb4.size (fun b hb => hb4.block b (h3.lt b hb))
  have hbw4 : Below w.heap.size w w4 := hbw3.trans (hb4.mono hbw3.size)
  have hR4 := rows_tight hR
  have HB4 := Lib.hid hb4'
  have H4 := Lib.hid h4
  have HA := Lib.hid hA
  have HR4 := Lib.hid hR4
  have hs30 := hbw3.size
  clear hA hR hR4 hb4' h4 h3 hb3' hb4 HDEC
  go_wp2_with fail
  have hb5 := (Below.refl w4.heap.size w4).alloc (Nat.le_refl _) (.cells (pgCs x A c) 30)
  have h5 := H4.out.keep hb5.size (fun b hb => hb5.block b (H4.out.lt b hb))
  have hR5 := Reads.below HR4.out hb5
  have hg45 := HB4.out.below hb5 HB4.out.lt
  have hbw5 : Below w.heap.size w _ := hbw4.trans (hb5.mono hbw4.size)
  have hs45 := hb5.size
  have hroF : ∀ b, (w3.heap.size ≤ b ∧ rowOf w4 A b) → b < w4.heap.size := fun b hb => hb.2.2
  obtain ⟨w5, hw5⟩ : ∃ w5, w5 = w4.alloc (.cells (pgCs x A c) 30) := ⟨_, rfl⟩
  change Calls Tryz.prog _ #[ptr gp, pgV x A c] (w4.alloc (.cells (pgCs x A c) 30)) _
  rw [← hw5] at h5 hR5 hg45 hbw5 hs45 ⊢
  clear hb5 HB4 H4 HR4
  have hb6 := (Below.refl w5.heap.size w5).alloc (Nat.le_refl _) (.cells (pgCs x A c) 30)
  have HBR := Lib.hid (pool_brings (w := w5) (H := H) (G := fun b => w3.heap.size ≤ b ∧ rowOf w4 A b) hx HA.out hR5 (fun b hb => ⟨fun hh => by have := hH b hh; have := hb.1; omega, by have := hroF b hb; omega⟩) (fun b hb => by have := hH b hb; have := hbw5.size; omega) Z Z4
    (HT.out _ (hbw5.trans (hb6.mono hbw5.size)) (h5.keep hb6.size (fun b hb => hb6.block b (h5.lt b hb)))))
  have htw5 := Turns.of_below hbw5 H
  have hg4H : ¬ H g4 := fun hh => by have := hH g4 hh; omega
  have hg4r : ¬ (w3.heap.size ≤ g4 ∧ rowOf w4 A g4) := fun hh => by omega
  clear hb6 HT h5 hbw5
  refine HBR.out.mono ?_
  rintro e w7 (⟨rfl, hz, htz⟩ | ⟨i, p', F', H', v', s', r', cs', ids', rest, w6, rfl, h7, hfree, hnone, ht6, hF', hZ, ht7⟩)
  · have HB7 := Lib.hid (hg45.turns htz hg4H)
    have hg47 := HB7.out.lt
    have z0 := HB7.out.cell 0
    have f0 := HB7.out.frozen 0
    have z1 := HB7.out.cell 1
    have f1 := HB7.out.frozen 1
    have z2 := HB7.out.cell 2
    have f2 := HB7.out.frozen 2
    have z3 := HB7.out.cell 3
    have f3 := HB7.out.frozen 3
    have z4 := HB7.out.cell 4
    have f4 := HB7.out.frozen 4
    have z5 := HB7.out.cell 5
    have f5 := HB7.out.frozen 5
    simp only [List.getElem?_toArray, List.getElem?_cons_succ, List.getElem?_cons_zero] at z0 z1 z2 z3 z4 z5
    clear hg45 HBR
    go_wp2_with fail
    obtain ⟨W8, hW8, hX8, ht8, hk8⟩ := six_set HB7.out (.int .u8 0) (.int .u8 0) (.int .u32 0) (.int .u64 0) (.int .u32 0) (.slice none 0 0)
    rw [hW8]
    have z0 := hX8.cell 0
    have z1 := hX8.cell 1
    have z2 := hX8.cell 2
    have z3 := hX8.cell 3
    have z4 := hX8.cell 4
    have z5 := hX8.cell 5
    simp only [List.getElem?_toArray, List.getElem?_cons_succ, List.getElem?_cons_zero] at z0 z1 z2 z3 z4 z5
    clear f0 f1 f2 f3 f4 f5 hW8
    exact bodyPost_ret (v := .tuple #[zeroPgV, .int .i64 4]) (by rw [results_cell_tmp rfl]; go_simp) rfl (.inl ⟨rfl, w7, g4, hz, hg4l, ht8⟩)
  -- pins, copied
  obtain ⟨it, hite⟩ : ∃ it : Sp.It, it = ⟨x, 0, false, 0, i⟩ := ⟨_, rfl⟩
  obtain ⟨p2, hp2⟩ : ∃ p2, p2 = p'.bring x i rest := ⟨_, rfl⟩
  have hit : it ∈ p2.items := by rw [hp2, hite]; simp [Sp.Pl.bring]
  have hxe : x = it.page := by rw [hite]
  have hpin0 : it.pins < 1000000000 := by rw [hite]; simp
  rw [← hp2] at h7
  have hf2 : p2.find it.page.id = some it := Sp.Pl.find_of h7.wf hit
  have hl' := hids i p' ids' H' w6 hZ
  have HP2 := Lib.hid hp2
  have hg4H' : ¬ H' g4 := fun hh => by
    have hz := hg45.lt
    rcases ht6.foot g4 hh with h | h
    · exact hg4H h
    · omega
  have hg4F : ¬ (F' g4 ∨ (w3.heap.size ≤ g4 ∧ rowOf w4 A g4)) := fun hh => by
    rcases hh with hh | hh
    · exact hg4H' (hF' g4 hh)
    · exact hg4r hh
  have hb2 := (hg45.turns ht6 hg4H).turns ht7 (fun hh => hg4F (.inl hh))
  have HPN := Lib.hid (pool_pins_walk h7 (id := it.page.id) (by rw [← hxe]; exact hid) hf2 hpin0 hl')
  have hlt9 := h7.wf.idx_lt hit
  have hn64 := h7.wf.n64
  have hg4 := hg4F
  have hs67 := ht7.size
  have hs56 := ht6.size
  clear h7 hp2 hite hg45 HBR
  subst hxe
  go_wp2_with fail
  refine (HPN.out).mono ?_
  rintro e w8 ⟨F3, v3, cs3, rfl, h3, ht3⟩
  have hit3 : ({ it with pins := it.pins + 1 } : Sp.It) ∈ (p2.pinUp it.page.id).items := List.mem_map.2 ⟨it, hit, by simp⟩
  obtain ⟨A2, c2, hA, hR, hc⟩ := h3.fr.item _ hit3
  have k0 := (h3.fr.blk.cell _).trans (hc 0 (by omega))
  have k1 := (h3.fr.blk.cell _).trans (hc 1 (by omega))
  have k2 := (h3.fr.blk.cell _).trans (hc 2 (by omega))
  have k3 := (h3.fr.blk.cell _).trans (hc 3 (by omega))
  have k4 := (h3.fr.blk.cell _).trans (hc 4 (by omega))
  have k5 := (h3.fr.blk.cell _).trans (hc 5 (by omega))
  simp only [frCells, List.getElem?_cons_succ, List.getElem?_cons_zero, Nat.add_zero] at k0 k1 k2 k3 k4 k5
  have hlr : it.page.rows.length ≤ 1000000 := by
    have := (h3.wf.pg _ hit3).2.2.2.2.2
    have : 4 * it.page.rows.length + Sp.total it.page.rows ≤ 484 := this
    omega
  have HCP := Lib.hid (pool_copied (c := c2) hA hR hlr)
  have hg42 := hb2.lt
  have hb3 := hb2.turns ht3 hg4
  have H3 := Lib.hid h3
  clear hA hR hc h3 hb2 HPN
  go_wp2_with fail
  refine HCP.out.mono ?_
  rintro e w9 ⟨A', c', rfl, hA', hR', hb4⟩
  have hB4 := hb3.below hb4 hb3.lt
  have z0 := hB4.cell 0
  have z1 := hB4.cell 1
  have z2 := hB4.cell 2
  have z3 := hB4.cell 3
  have z4 := hB4.cell 4
  have z5 := hB4.cell 5
  have f0 := hB4.frozen 0
  have f1 := hB4.frozen 1
  have f2 := hB4.frozen 2
  have f3 := hB4.frozen 3
  have f4 := hB4.frozen 4
  have f5 := hB4.frozen 5
  simp only [List.getElem?_toArray, List.getElem?_cons_succ, List.getElem?_cons_zero] at z0 z1 z2 z3 z4 z5
  have h4 := H3.out.keep hb4.size (fun b hb => hb4.block b (H3.out.lt b hb))
  have HR := Lib.hid hR'
  have HA := Lib.hid hA'
  have H4 := Lib.hid h4
  have ht4 := ht3.next hb4
  have HB4 := Lib.hid hB4
  have hg4k := hb3.lt
  clear hR' hA' h4 hB4 H3 HCP k0 k1 k2 k3 k4 k5 hb3
  go_wp2_with fail
  obtain ⟨W8, hW8, hX8, ht8, hk8⟩ := six_set HB4.out (.int .u8 it.page.kind) (.int .u8 it.page.level) (.int .u32 it.page.id) (.int .u64 it.page.lsn) (.int .u32 it.page.next) (.slice A' it.page.rows.length c')
  rw [hW8]
  have z0 := hX8.cell 0
  have z1 := hX8.cell 1
  have z2 := hX8.cell 2
  have z3 := hX8.cell 3
  have z4 := hX8.cell 4
  have z5 := hX8.cell 5
  simp only [List.getElem?_toArray, List.getElem?_cons_succ, List.getElem?_cons_zero] at z0 z1 z2 z3 z4 z5
  clear f0 f1 f2 f3 f4 f5 hW8
  have hF3 : ∀ b, F3 b → (F' b ∨ (w3.heap.size ≤ b ∧ rowOf w4 A b)) ∨ w7.heap.size ≤ b := fun b hb => ht3.foot b hb
  have hnF3 : ¬ F3 g4 := fun hh => by
    rcases hF3 g4 hh with h | h
    · exact hg4F h
    · omega
  have hz8 := ht3.size
  have hzw := htw5.size
  have hpl := H4.out.keep ht8.size (fun b hb => hk8 b (fun e => hnF3 (e ▸ hb)))
  rw [HP2.out] at hpl
  refine bodyPost_ret (v := .tuple #[pgV it.page A' c', .int .i64 0]) (by rw [results_cell_tmp rfl]; go_simp) rfl (.inr ⟨i, p', F', H', ids', rest, w6, F3, (fun b => R b ∨ (w3.heap.size ≤ b ∧ rowOf w4 A b)), v3, s', r', cs3, A', c', rfl, HA.out, ?_, hpl, hfree, hnone, hZ, hF', htw5.trans ht6, ⟨fun b => (w3.heap.size ≤ b ∧ rowOf w4 A b) ∨ b = g4, ?_, ?_⟩⟩)
  · exact (HR.out.keep ht8.size (fun b hb => hk8 b (fun e => by have hb : w8.heap.size ≤ b := hb; omega))).mono (fun b hb => by have hb : w8.heap.size ≤ b := hb; omega)
  · rintro b (hb | rfl)
    · have hb4 := hroF b hb
      refine ⟨fun hh => ?_, by have := hb.1; omega⟩
      rcases ht6.foot b hh with h | h
      · have := hH b h; have := hb.1; omega
      · omega
    · exact ⟨hg4H', hg4l⟩
  · refine ⟨ht8.os.trans (ht4.os.trans ht7.os), ht8.tape.trans (ht4.tape.trans ht7.tape), ht8.output.trans (ht4.output.trans ht7.output), Nat.le_trans hs67 (Nat.le_trans ht4.size ht8.size), fun b hb hn => ?_, fun b hb => ?_⟩
    · rw [hk8 b (fun e => hn (.inr (.inr e))), ht4.block b (by omega) (fun h => hn (h.imp id (fun h => .inl h)))]
      exact ht7.block b hb (fun h => hn (.inl h))
    · rcases hF3 b hb with h | h
      · exact .inl (h.imp id (fun h => .inl h))
      · exact .inr (by omega)
end Go.Proofs.YtbpjgdbkmnhnmaaGreat

/- Pin, of a pool whose pages are all clean. -/
namespace Go.Proofs.YtbpjgdbkmnhnmaaGreat
open Go.RowKit Go.Conc

namespace Sp
/-- a page set last in the row. -/
def Pl.last (p : Pl) (id : Nat) : Pl := { p with items := p.items.filter (fun x => x.page.id != id) ++ p.items.filter (fun x => x.page.id == id) }
theorem Pl.last_perm (p : Pl) (id : Nat) : (p.last id).items.Perm p.items := by
  unfold Pl.last
  have h := List.filter_append_perm (fun x : It => x.page.id != id) p.items
  have e : (fun x : It => !(x.page.id != id)) = fun x => x.page.id == id := by funext x; simp [bne]
  rw [e] at h
  exact h
theorem filter_one : ∀ {l : List Nat} {a : Nat}, l.Nodup → a ∈ l → l.filter (fun x => x == a) = [a]
  | x :: l, a, hn, hm => by
    rw [List.nodup_cons] at hn
    by_cases e : x = a
    · subst e
      rw [List.filter_cons_of_pos (by simp), List.filter_eq_nil_iff.2]
      intro y hy
      have : y ≠ x := fun e => hn.1 (e ▸ hy)
      simpa using this
    · rw [List.filter_cons_of_neg (by simpa using e)]
      rcases List.mem_cons.1 hm with h | h
      · exact absurd h.symm e
      · exact filter_one hn.2 h
theorem Pl.last_ids {p : Pl} (h : (p.items.map (·.page.id)).Nodup) {id : Nat} (hm : id ∈ p.items.map (·.page.id)) : (p.last id).items.map (·.page.id) = (p.items.map (·.page.id)).filter (fun x => !(x == id)) ++ [id] := by
  unfold Pl.last
  rw [List.map_append]
  congr 1
  · rw [List.filter_map]; rfl
  · have := filter_one h hm
    rw [List.filter_map] at this
    exact this
end Sp

/-- Pin of a page that is in. -/
theorem pool_pin_in' {F : Foot} {w : World} {gp gd gl at_ base : Nat} {p : Sp.Pl} (h : IsPl F w gp gd gl at_ base p) {id : Nat} (hid : id < 4294967296) {it : Sp.It} (hf : p.find id = some it) (hp : it.pins < 1000000000) :
    Calls Tryz.prog 9 #[ptr gp, u32v id] w fun e w' => ∃ F' A c, e = .returned (.tuple #[pgV it.page A c, .int .i64 0]) ∧ OkAddr A ∧ RowsAt (fun b => w.heap.size ≤ b) w' A it.page.rows ∧
      IsPl F' w' gp gd gl at_ base ((p.pinUp id).last id) ∧ Turns F F' w w' := by
  obtain ⟨hit, rfl⟩ := Sp.Pl.find_mem hf
  obtain ⟨R, fb, cb, mb, v, s, r, cs, h⟩ := h
  have hlen : (p.items.map (·.page.id)).length ≤ 64 := by
    have := h.wf.len; have := h.wf.n64
    rw [List.length_map]; omega
  refine (pool_pin_in h hid hf hp hlen).mono ?_
  rintro e w' ⟨F', v', cs', A, c, rfl, hA, hR, h', ht⟩
  refine ⟨F', A, c, rfl, hA, hR, ⟨R, fb, cb, mb, v', s, r, cs', ?_⟩, ht⟩
  have eu : ((p.pinUp it.page.id).items.map (·.page.id)) = p.items.map (·.page.id) := Sp.Pl.upd_ids ⟨fun _ => rfl, fun _ => rfl⟩
  have e1 := Sp.Pl.last_ids (p := p.pinUp it.page.id) h'.wf.ids (id := it.page.id) (by rw [eu]; exact List.mem_map.2 ⟨it, hit, rfl⟩)
  rw [eu] at e1
  have := h'.perm (Sp.Pl.last_perm (p.pinUp it.page.id) it.page.id)
  rw [← e1] at this
  exact this

/-- What take leaves of a pool whose pages are all clean. -/
def ZClean (p : Sp.Pl) (ids : List Nat) : Nat → Sp.Pl → List Nat → Foot → World → Prop := fun _ p' ids' _ _ =>
  (p' = p ∧ ids' = ids) ∨ ∃ pre it post, p.free = [] ∧ ids = pre ++ it.page.id :: post ∧ (∀ n ∈ pre, ∃ y, p.find n = some y ∧ 0 < y.pins) ∧ p.find it.page.id = some it ∧ it.pins = 0 ∧ p' = p.drop it.page.id it.idx ∧ ids' = ids.filter (fun x => !(x == it.page.id))
def Z4Clean (w : World) (p : Sp.Pl) (ids : List Nat) : World → Prop := fun w2 => p.free = [] ∧ (∀ n ∈ ids, ∃ it, p.find n = some it ∧ 0 < it.pins) ∧ Below w.heap.size w w2

theorem take_clean {F R : Foot} {w : World} {gp gd gl at_ base fb cb mb s r : Nat} {v : Value} {cs : Array Value} {ids : List Nat} {p : Sp.Pl} (hclean : ∀ it ∈ p.items, it.dirty = false) (hids : ids = p.items.map (·.page.id)) {id : Nat} (hf : p.find id = none)
    (W : World) (hb : Below w.heap.size w W) (h : IsPlAt F R W gp gd gl at_ base fb cb mb v s r cs p.free ids p) :
    Calls Tryz.prog 87 #[ptr gp] W (TookPost (ZClean p ids) (Z4Clean w p ids) F R W gp gd gl at_ base fb cb mb id) := by
  have hlen : ids.length ≤ 64 := by
    have := h.wf.len; have := h.wf.n64
    rw [hids, List.length_map]; omega
  have hids32 : ∀ it ∈ p.items, it.page.id < 4294967296 := fun it hit => (h.wf.pg it hit).1.2.2.1
  cases hfr : p.free with
  | cons i rest =>
    refine (pool_take_free h hfr).mono ?_
    rintro e w' ⟨rfl, F', v', s', r', cs', h', ht⟩
    exact .inr ⟨i, p, F', F', v', s', r', cs', ids, rest, rfl, h', hfr, hf, ht, fun _ h => h, .inl ⟨rfl, rfl⟩⟩
  | nil =>
    have hin : ∀ n ∈ ids, n < 4294967296 ∧ ∃ it, p.find n = some it := fun n hn => by
      rw [hids] at hn
      obtain ⟨it, hit, rfl⟩ := List.mem_map.1 hn
      exact ⟨hids32 it hit, it, Sp.Pl.find_of h.wf hit⟩
    refine (pool_take_scan h hfr hin hlen (fun _ F' W1 w1 => Turns F F' W1 w1) (fun it hit hp W1 h1 ht1 => ?_)).mono ?_
    · refine (pool_drops_clean h1 (hids32 it hit) (Sp.Pl.find_of h.wf hit) (hclean it hit)).mono ?_
      rintro e w' ⟨rfl, F', v', cs', h', ht'⟩
      exact ⟨rfl, F', v', _, _, cs', h', ht'⟩
    · rintro e w' (⟨rfl, hall, ht⟩ | ⟨pre, it, post, hsp, hpre, hfi, hp0, rfl, W1, w1, F', v', s', r', cs', ht1, hX, h', ht2⟩)
      · exact .inl ⟨rfl, ⟨hfr, hall, hb.trans ((ht.below_none).mono hb.size)⟩, ht.wider (fun _ h => h.elim) (fun b hb => .inl hb)⟩
      · refine .inr ⟨it.idx, p.drop it.page.id it.idx, F', F', v', s', r', cs', _, [], rfl, h', ?_, ?_, ?_, fun _ h => h, .inr ⟨pre, it, post, hfr, hsp, hpre, hfi, hp0, rfl, rfl⟩⟩
        · simp [Sp.Pl.drop, hfr]
        · rw [Sp.Pl.find_none] at hf ⊢
          exact fun y hy => hf y (List.mem_filter.1 hy).1
        · have hcb := h'.foot.2.2.1
          refine ⟨ht2.os.trans (hX.os.trans ht1.os), ht2.tape.trans (hX.tape.trans ht1.tape), ht2.output.trans (hX.output.trans ht1.output), Nat.le_trans ht1.size (Nat.le_trans hX.size ht2.size), fun b hb hn => ?_, fun b hb => ?_⟩
          · have hz1 := ht1.size
            have hz2 := hX.size
            rw [ht2.block b (by omega) (fun e => by
              have e : b = cb := e
              rcases hX.foot cb hcb with h | h
              · exact hn (e ▸ h)
              · omega), hX.block b (by omega) hn]
            exact ht1.block b hb (fun e => e)
          · rcases hX.foot b hb with h | h
            · exact .inl h
            · exact .inr (Nat.le_trans ht1.size h)

/-- Pin of a page that is not in, of a pool whose pages are all clean. -/
theorem pool_pin_out' {F D : Foot} {w : World} {gp gd gl at_ base : Nat} {p : Sp.Pl} (h : IsPl F w gp gd gl at_ base p) (hclean : ∀ it ∈ p.items, it.dirty = false) {x : Sp.Pg} (hx : x.wf ∧ x.may) (hf : p.find x.id = none)
    {dk : Sp.Dk} (hdk : IsDk D w gd dk) (hfu : dk.fuse ≠ 0) (hlo : dk.loose = []) (hi : base + x.id * 4 + 4 ≤ dk.sure.length) (hpg : Sp.pageAt dk.sure (base + x.id * 4) = pgBytes x) :
    Calls Tryz.prog 9 #[ptr gp, u32v x.id] w fun e w' =>
      (e = .returned (.tuple #[zeroPgV, .int .i64 4]) ∧ p.free = [] ∧ (∀ it ∈ p.items, 0 < it.pins) ∧ IsPl F w' gp gd gl at_ base p ∧ Turns F F w w') ∨
      ∃ F' A c p' i rest, e = .returned (.tuple #[pgV x A c, .int .i64 0]) ∧ OkAddr A ∧ RowsAt (fun b => w.heap.size ≤ b) w' A x.rows ∧ p'.free = i :: rest ∧ p'.find x.id = none ∧
        IsPl F' w' gp gd gl at_ base ((p'.bring x i rest).pinUp x.id) ∧ Turns F F' w w' ∧
        (p' = p ∨ (p.free = [] ∧ ∃ pre it post, p.items = pre ++ it :: post ∧ (∀ y ∈ pre, 0 < y.pins) ∧ it.pins = 0 ∧ p' = p.drop it.page.id it.idx)) := by
  obtain ⟨R, fb, cb, mb, v, s, r, cs, h⟩ := h
  have hlen : (p.items.map (·.page.id)).length ≤ 64 := by
    have := h.wf.len; have := h.wf.n64
    rw [List.length_map]; omega
  refine (pool_pin_out (H := F) h hx hf hdk hfu hlo hi hpg h.lt (ZClean p (p.items.map (·.page.id))) (Z4Clean w p (p.items.map (·.page.id))) (fun W hb hW => take_clean hclean rfl hf W hb hW) (fun i p' ids' H' w2 hZ => ?_)).mono ?_
  · rcases hZ with ⟨_, rfl⟩ | ⟨pre, it, post, _, _, _, _, _, _, rfl⟩
    · exact hlen
    · exact Nat.le_trans (List.length_filter_le _ _) hlen
  rintro e w' (⟨rfl, w2, g4, ⟨hfr, hall, hb⟩, hg4, ht⟩ | ⟨i, p', F', H', ids', rest, w2, F3, R3, v3, s3, r3, cs3, A, c, rfl, hA, hR, h', hfree, hnone, hZ, hF', ht, G, hG, ht3⟩)
  · have hsz := hb.size
    have hb' : Below w.heap.size w w' := hb.trans (ht.below hsz (fun b e => by have e : b = g4 := e; omega))
    refine .inl ⟨rfl, hfr, fun it hit => ?_, ⟨R, fb, cb, mb, v, s, r, cs, h.keep hb'.size (fun b hF => hb'.block b (h.lt b hF))⟩, Turns.of_below hb' F⟩
    obtain ⟨y, hy, hp⟩ := hall it.page.id (List.mem_map.2 ⟨it, hit, rfl⟩)
    rw [Sp.Pl.find_of h.wf hit] at hy
    injection hy with hy
    rw [hy]; exact hp
  · refine .inr ⟨F3, A, c, p', i, rest, rfl, hA, hR, hfree, hnone, ⟨R3, fb, cb, mb, v3, s3, r3, cs3, ?_⟩, ?_, ?_⟩
    · have hids : ids' = p'.items.map (·.page.id) := by
        rcases hZ with ⟨rfl, rfl⟩ | ⟨pre, it, post, _, _, _, _, _, rfl, rfl⟩
        · rfl
        · simp only [Sp.Pl.drop]
          rw [List.filter_map]
          rfl
      have hnot : ids'.filter (fun y => !(y == x.id)) = ids' := by
        rw [List.filter_eq_self]
        intro a ha
        rw [hids] at ha
        obtain ⟨y, hy, rfl⟩ := List.mem_map.1 ha
        have := Sp.Pl.find_none.1 hnone y hy
        simpa using this
      have e2 : (((p'.bring x i rest).pinUp x.id).items.map (·.page.id)) = ids'.filter (fun y => !(y == x.id)) ++ [x.id] := by
        rw [hnot, hids]
        refine (Sp.Pl.upd_ids (p := p'.bring x i rest) (id := x.id) (f := fun y => { y with pins := y.pins + 1 }) ⟨fun _ => rfl, fun _ => rfl⟩).trans ?_
        simp [Sp.Pl.bring]
      rw [e2]
      exact h'
    · refine ⟨ht3.os.trans ht.os, ht3.tape.trans ht.tape, ht3.output.trans ht.output, Nat.le_trans ht.size ht3.size, fun b hb hn => ?_, fun b hb => ?_⟩
      · have hz := ht.size
        rw [ht3.block b (by omega) (fun hh => by
          rcases hh with hh | hh
          · rcases ht.foot b (hF' b hh) with h1 | h1
            · exact hn h1
            · omega
          · have := (hG b hh).2; omega)]
        exact ht.block b hb hn
      · rcases ht3.foot b hb with hh | hh
        · rcases hh with hh | hh
          · exact ht.foot b (hF' b hh)
          · exact .inr (hG b hh).2
        · exact .inr (Nat.le_trans ht.size hh)
    · rcases hZ with ⟨rfl, _⟩ | ⟨pre, it, post, hfr, hsp, hpre, hfi, hp0, rfl, _⟩
      · exact .inl rfl
      · refine .inr ⟨hfr, ?_⟩
        obtain ⟨l1, l2, e1, e2, e3⟩ := List.map_eq_append_iff.1 hsp
        obtain ⟨y, l3, e4, e5, e6⟩ := List.map_eq_cons_iff.1 e3
        have hy : y ∈ p.items := by rw [e1, e4]; simp
        have hye : y = it := by
          have := Sp.Pl.find_of h.wf hy
          rw [e5, hfi] at this
          injection this with this
          exact this.symm
        subst hye
        refine ⟨l1, y, l3, by rw [e1, e4], fun z hz => ?_, hp0, rfl⟩
        obtain ⟨q, hq, hqp⟩ := hpre z.page.id (by rw [← e2]; exact List.mem_map.2 ⟨z, hz, rfl⟩)
        rw [Sp.Pl.find_of h.wf (by rw [e1]; exact List.mem_append_left _ hz)] at hq
        injection hq with hq
        rw [hq]; exact hqp
end Go.Proofs.YtbpjgdbkmnhnmaaGreat
