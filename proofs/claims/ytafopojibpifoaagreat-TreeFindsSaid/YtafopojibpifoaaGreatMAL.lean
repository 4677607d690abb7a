/- The walk of package tree: Way. -/
import Derived.Test.YtafopojibpifoaaGreatMAK
import Derived.Test.YtafopojibpifoaaGreatMAC
import Derived.Deep.CutBlock
import Derived.WalkMore
import Derived.Test.YtafopojibpifoaaGreatMAF
import Derived.Test.YtafopojibpifoaaGreatMAD
import Derived.Test.YtafopojibpifoaaGreatMAG

namespace Go.Proofs.YtafopojibpifoaaGreat
open Go.RowKit Go.Conc

/-- Steps' cells. -/
def stC2 (l : List (Nat × Nat)) : List Value := l.flatMap fun x => [.int .u32 x.1, .int .i64 x.2]
theorem stC2_app (a b : List (Nat × Nat)) : stC2 (a ++ b) = stC2 a ++ stC2 b := by simp [stC2]
theorem step_info : (Tryz.prog.info? 69).map (fun i => (i.zero, i.size, i.bytes)) = some (some (.agg #[.int .u32 0, .int .i64 0]), 2, 16) := by kernel_rfl
abbrev pgZ : Array Value := #[.int .u8 0, .int .u8 0, .int .u32 0, .int .u64 0, .int .u32 0, .slice none 0 0]

theorem row_shape {w : World} {base : Nat} {e : TypeId} {sz : Nat} {v : Value} {n : Nat} {xs : List Value} (h : w.ownsRow base e sz v n xs) : ∃ A c, v = .slice A n c := by
  rcases h.2 with ⟨rfl, rfl⟩ | ⟨g, cap, cur, rfl, _⟩
  · exact ⟨none, 0, rfl⟩
  · exact ⟨_, cap, rfl⟩
/-- What Way hands back. -/
def WayPost (ly : Ly) (pg : Nat → Sp.Pg) (K : Foot) (w : World) (gt root ga gd gl gp n : Nat) (steps : List (Nat × Nat)) (leaf : Nat) (e : Ending) (w' : World) : Prop :=
  ∃ v A c, e = .returned (.tuple #[v, pgV (pg leaf) A c, .int .i64 0]) ∧ w'.ownsRow w.heap.size 69 2 v steps.length (stC2 steps) ∧ OkAddr A ∧ RowsAt (fun b => w.heap.size ≤ b ∧ rowK A (pg leaf).rows.length b) w' A (pg leaf).rows ∧
    TrAt ly pg (fun b => K b ∨ rowK A (pg leaf).rows.length b ∨ v.ownBlock = some b) w' gt root ga gd gl gp n ∧ Kept K w w'
/-- What holds on the way. -/
def WayRel (ly : Ly) (pg : Nat → Sp.Pg) (kn : Nat → Option Sp.Kn) (k : Sp.Bs) (K : Foot) (w : World) (gt root ga gd gl gp n g5 : Nat) (steps : List (Nat × Nat)) (leaf m : Nat) (v : Value) (q : Nat) (wr : World) : Prop :=
  ∃ pre post, pre.length = m ∧ Sp.wayF kn k (8 - m) q = some (post, leaf) ∧ pre ++ post = steps ∧ wr.ownsRow (w.heap.size + 1) 69 2 v m (stC2 pre) ∧ Blk wr g5 51 pgZ ∧
    TrAt ly pg (fun b => K b ∨ b = g5 ∨ v.ownBlock = some b) wr gt root ga gd gl gp n ∧ Kept K w wr ∧ w.heap.size < wr.heap.size

set_option maxRecDepth 100000 in
set_option maxHeartbeats 8000000 in
theorem tree_way {ly : Ly} {pg : Nat → Sp.Pg} {kn : Nat → Option Sp.Kn} (hkn : Known ly pg kn) {K : Foot} {w : World} {gt root ga gd gl gp n : Nat} (h : TrAt ly pg K w gt root ga gd gl gp n) (k : Sp.Bs) {steps : List (Nat × Nat)} {leaf : Nat} (hw : Sp.wayF kn k 8 root = some (steps, leaf)) :
    Calls Tryz.prog 16 #[ptr gt, str k] w (WayPost ly pg K w gt root ga gd gl gp n steps leaf) := by
  have HKN := Lib.hid hkn
  have HLT := Lib.hid h.lt
  have HNE := Lib.hid h.ne
  have HOK := Lib.hid h.ok
  have hKa := h.ac.k
  have hKt := h.k
  obtain ⟨is, his, hz0, hz1, hz2⟩ := info_parts step_info
  have hb1 := (Below.refl w.heap.size w).alloc (Nat.le_refl _) (.cells pgZ 51)
  have hB1 := Blk.new w 51 pgZ
  have h1 : TrAt ly pg (fun b => K b ∨ b = w.heap.size ∨ (Value.slice none 0 0).ownBlock = some b) (w.alloc (.cells pgZ 51)) gt root ga gd gl gp n := h.more hb1 (fun b hb => by
    rcases hb with hb | hb | hb
    · exact .inl hb
    · exact .inr (by simp [hb])
    · simp [Value.ownBlock] at hb) (.inl h.ac.k) (.inl h.k)
  have HN := Lib.hid (tree_none h1.tree)
  obtain ⟨c0, c1, _, _⟩ := h1.cells
  have hk1 : Kept K w (w.alloc (.cells pgZ 51)) := Kept.of_below hb1 h.lt
  have hrel : WayRel ly pg kn k K w gt root ga gd gl gp n w.heap.size steps leaf 0 (.slice none 0 0) root (w.alloc (.cells pgZ 51)) :=
    ⟨[], steps, rfl, hw, rfl, World.ownsRow_nil _ _ _ _, hB1, h1, hk1, by simp⟩
  have HREL := Lib.hid hrel
  clear hkn h hb1 hB1 h1 hk1 hrel hw
  go_enter Tryz.func16, Tryz.ntmps16
  go_wp2_with fail
  go_step3
  go_wp2_with fail
  generalize hw1 : World.alloc w _ = w1 at HN HREL c0 c1 ⊢
  clear hw1
  refine HN.out.mono ?_
  rintro e w1' ⟨rfl, hw⟩
  subst w1'
  clear HN
  go_wp2_with fail
  go_step3
  go_wp2_with fail
  clear c0 c1
  go_loopw [4, 7] (fun v d wr => ∃ (m q : Nat) (u : Value), u = v ∧ d = .int .u32 q ∧ m ≤ 8 ∧ WayRel ly pg kn k K w gt root ga gd gl gp n w.heap.size steps leaf m u q wr) (fun v _ _ => 8 - (match v with | .slice _ l _ => l | _ => 0))
  case atStart => exact ⟨0, root, _, rfl, rfl, by omega, HREL.out⟩
  case round =>
    obtain ⟨m, q, v, rfl, rfl, hm8, pre, post, hpl, hway, hsteps, hO, hB5, hT, hk, hsz⟩ := hrel
    obtain ⟨A0, cc0, rfl⟩ := row_shape hO
    have hm : m < 8 := by
      rcases Nat.lt_or_ge m 8 with h | h
      · exact h
      · have : 8 - m = 0 := by omega
        rw [this] at hway
        cases hway
    obtain ⟨f, hf⟩ : ∃ f, 8 - m = f + 1 := ⟨7 - m, by omega⟩
    rw [hf, Sp.wayF] at hway
    replace hf := Lib.hid hf
    obtain ⟨x, hkq⟩ : ∃ x, kn q = some x := by
      cases hx : kn q with
      | none => rw [hx] at hway; cases hway
      | some x => exact ⟨x, rfl⟩
    obtain ⟨hq1, hqT, hokx⟩ := HKN.out q x hkq
    rw [hkq] at hway
    have hN : ∃ ks, Sp.NodePg (pg q) ks := by
      cases x with
      | bad => cases hway
      | leaf rs => exact ⟨_, known_leaf hokx⟩
      | inner es => exact ⟨_, known_inner hokx⟩
    obtain ⟨ks, hN⟩ := hN
    have hmay := (HOK.out q hq1 hqT).2.1
    obtain ⟨c0, c1, _, _⟩ := hT.cells
    have HP := Lib.hid (tree_page hT hq1 hqT)
    have HO := Lib.hid hO
    have HWAY := Lib.hid hway
    have HOKX := Lib.hid hokx
    have HNN := Lib.hid hN
    have HMAY := Lib.hid hmay
    have HST := Lib.hid hsteps
    have hkl := hT.lt
    have hka := hT.ac.k
    have hkt := hT.k
    have hlen : ¬ (8 ≤ m) := by omega
    clear hO hT hway hokx hN hmay hsteps hkq
    go_wp2_with fail
    refine HP.out.mono ?_
    rintro e w2 ⟨A, c, rfl, hA, hR, hT2, hk2⟩
    have hO2 : w2.ownsRow (w.heap.size + 1) 69 2 (.slice A0 m cc0) m (stC2 pre) := row_keep' HO.out (fun b hb => hk2.block b (.inr (.inr hb)))
    have hB52 := hB5.kept hk2 (.inr (.inl rfl))
    have hb3 := (Below.refl w2.heap.size w2).alloc (Nat.le_refl _) (.cells (pgCs (pg q) A c) 51)
    have hB8 := Blk.new w2 51 (pgCs (pg q) A c)
    have hR3 := Reads.below hR hb3
    have HC := Lib.hid (node_check (c := c) HNN.out HMAY.out hR3)
    have HA := Lib.hid hA
    have hT3 : TrAt ly pg (fun b => ((K b ∨ b = w.heap.size ∨ (Value.slice A0 m cc0).ownBlock = some b) ∨ rowK A (pg q).rows.length b) ∨ b = w2.heap.size) (w2.alloc (.cells (pgCs (pg q) A c) 51)) gt root ga gd gl gp n := hT2.more hb3 (fun b hb => hb.imp id (fun e => by rw [e]; simp)) (.inl (.inl hka)) (.inl (.inl hkt))
    have hO3 := row_keep' (w' := w2.alloc (.cells (pgCs (pg q) A c) 51)) hO2 (fun b hb => Below.heap_alloc w2 _ b (hO2.lt b hb).2)
    have hB53 := hB52.alloc (.cells (pgCs (pg q) A c) 51)
    have hs2 := hk2.size
    have hK3 : Kept K w (w2.alloc (.cells (pgCs (pg q) A c) 51)) := (hk.trans (hk2.mono (fun b hb => .inl hb))).trans (Kept.of_below hb3 (fun b hb => hT2.lt b (.inl (.inl hb))))
    have hlt2 := hT2.lt
    have hOl : ∀ b, (Value.slice A0 m cc0).ownBlock = some b → b < wr.heap.size := fun b hb => (HO.out.lt b hb).2
    clear hk hk2 HO hB5 hO2 hB52 hT2 hR hA HP c0 c1
    go_wp2_with fail
    have hg8 : w.heap.size < w2.heap.size := by omega
    generalize hw3 : World.alloc w2 _ = w3 at hb3 hB8 hR3 HC hT3 hO3 hB53 hK3 ⊢
    clear hw3
    refine HC.out.mono ?_
    rintro e w4 ⟨rfl, hb4⟩
    have hB84 := hB8.below hb4 hB8.lt
    have hB54 := hB53.below hb4 hB53.lt
    have hR4 := Reads.below hR3 hb4
    have hT4 := hT3.below hb4
    have hO4 : w4.ownsRow (w.heap.size + 1) 69 2 (.slice A0 m cc0) m (stC2 pre) := row_keep' hO3 (fun b hb => hb4.block b (hO3.lt b hb).2)
    have hK4 := hK3.trans (Kept.of_below hb4 (fun b hb => hT3.lt b (.inl (.inl (.inl hb)))))
    have hs3 := hb3.size
    have hs4 := hb4.size
    obtain ⟨c0, c1, c2, c3, c4, c5⟩ := page_cells hB84
    clear hb3 hb4 hB8 hB53 hR3 hT3 hO3 hK3 HC
    cases x with
    | bad => cases HWAY.out
    | leaf rs =>
      have hkd : (pg q).kind = 1 := HOKX.out.1.1
      have d1 : decide (((pg q).kind : Int) = 1) = true := by rw [decide_eq_true_eq]; omega
      have d2 : (((pg q).kind : Int) == 1) = true := by rw [beq_iff_eq]; omega
      have hw2' := HWAY.out
      simp only [Option.some.injEq, Prod.mk.injEq] at hw2'
      obtain ⟨rfl, rfl⟩ := hw2'
      clear hkd
      go_wp2_with fail
      have hS := Lib.hid (show Blk w4.drew w2.heap.size 51 (pgCs (pg q) A c) from hB84)
      clear c0 c1 c2 c3 c4 c5
      refine R_begin (fun W => Blk W w2.heap.size 51 (pgCs (pg q) A c)) (fun _ => false) rfl ?_
      refine R_tk 0 47 hS.out ?_
      refine R_tk 1 48 hS.out ?_
      refine R_tk 2 49 hS.out ?_
      refine R_take 5 52 (v := pgV (pg q) A c) rfl rfl (by rfl) (by kernel_rfl) (fun _ _ _ h => h) hS.out ?_ ?_
      · intro w hSw
        exact run_op_load _ _ _ rfl rfl (run_loadVar_row w w2.heap.size _ _ _ _ _ hSw Tryz.underlying51 rfl rfl)
      simp only [List.setIfInBounds_toArray, List.set_cons_zero, List.set_cons_succ]
      have hO4d : w4.drew.ownsRow (w.heap.size + 1) 69 2 (.slice A0 m cc0) m (stC2 pre) := row_keep' hO4 (fun _ _ => rfl)
      have hT4d := (Turns.refl (fun b => (Value.slice A0 m cc0).ownBlock = some b) w4).drew.alloc (.cells #[.int .u32 q, .int .i64 0] 69)
      have hNs := Blk.new w4.drew 69 #[.int .u32 q, .int .i64 0]
      have hOb : ∀ b, (Value.slice A0 m cc0).ownBlock = some b → w.heap.size + 1 ≤ b := fun b hb => (hO4.lt b hb).1
      have hO8 : ∀ b, (Value.slice A0 m cc0).ownBlock = some b → b ≠ w2.heap.size := fun b hb e => by
        obtain ⟨cs', h5⟩ := ownsRow_heap hO4 hb
        have h6 : w4.heap[w2.heap.size]? = _ := hB84
        rw [e] at h5
        rw [h5] at h6; injection h6 with h6; injection h6 with _ h6; exact absurd h6 (by decide)
      refine R_run 3 50 (v := .slice (some ⟨w4.drew.heap.size, 0, none⟩) 1 1) (w' := w4.drew.alloc (.cells #[.int .u32 q, .int .i64 0] 69)) rfl rfl (by rfl) (by kernel_rfl) ?_ ?_ ?_
      · go_simp
      · exact fun _ => hB84.drew.alloc _
      simp only [List.setIfInBounds_toArray, List.set_cons_zero, List.set_cons_succ]
      refine R_step 4 rfl (by rfl) (by kernel_rfl) ?_
      refine wp_append_own2 _ _ _ _ rfl (w.heap.size + 1) 69 is (.agg #[.int .u32 0, .int .i64 0]) 2 16 Tryz.underlying55 his hz0 hz1 hz2 rfl (by decide) _ m (stC2 pre) rfl (hO4d.alloc _) ⟨w4.drew.heap.size, 0, none⟩ 1 1 [.int .u32 q, .int .i64 0] rfl rfl (blk_news hNs) (fun x hx => by simp at hx; rcases hx with rfl | rfl <;> rfl) (by unfold maxLen; omega) (by omega) (by simp; omega) ?_
      intro v' w6 q1 q2 q3
      have hT6t : Turns (fun b => (Value.slice A0 m cc0).ownBlock = some b) (fun b => (Value.slice A0 m cc0).ownBlock = some b) w4 w6 := hT4d.grown q2 (fun b hb => .inl hb)
      have hB86 : Blk w6 w2.heap.size 51 (pgCs (pg q) A c) := hB84.turns hT6t (fun h => hO8 _ h rfl)
      have hB56 : Blk w6 w.heap.size 51 pgZ := hB54.turns hT6t (fun h => by have := hOb _ h; omega)
      refine ⟨fun _ => hB86, ?_⟩
      refine R_put 51 rfl ?_
      refine R_tk 6 4 hB86 ?_
      simp only [List.setIfInBounds_toArray, List.set_cons_zero, List.set_cons_succ]
      refine R_store 7 (n := .skip) (w' := w6.setRow w.heap.size (pgCs (pg q) A c)) rfl rfl (by rfl) (by kernel_rfl) ?_ (.inl rfl) (fun _ => hB86.keep (heap_setRow_other _ _ _ _ (by omega))) ?_
      · exact run_op_store _ _ _ _ _ rfl rfl rfl (page_store hB56)
      refine R_done (by kernel_rfl) ?_ _
      rename_i K9 hK9
      refine hK9 _ _ ?_
      clear hK9
      clear hS q2 hO4d hT4d hNs
      go_wp2_with fail
      have hB57 := hB56.setRow (pgCs (pg q) A c)
      have hT7t := (Turns.refl (only w.heap.size) w6).setRow (.inl rfl) (pgCs (pg q) A c)
      have hS7 := Lib.hid (show Blk (w6.setRow w.heap.size (pgCs (pg q) A c)).drew w.heap.size 51 (pgCs (pg q) A c) from hB57)
      generalize hw7 : World.setRow w6 _ _ = w7 at hB57 hT7t hS7 ⊢
      clear hw7
      refine R_begin (fun W => Blk W w.heap.size 51 (pgCs (pg q) A c)) (fun _ => false) rfl ?_
      refine R_tk 0 67 hS7.out ?_
      refine R_take 1 68 (v := pgV (pg q) A c) rfl rfl (by rfl) (by kernel_rfl) (fun _ _ _ h => h) hS7.out ?_ ?_
      · intro w hSw
        exact run_op_load _ _ _ rfl rfl (run_loadVar_row w _ _ _ _ _ _ hSw Tryz.underlying51 rfl rfl)
      refine R_tk 2 4 hS7.out ?_
      simp only [List.setIfInBounds_toArray, List.set_cons_zero, List.set_cons_succ]
      have hB58 := hB57.drew.setRow (pgCs (pg q) A c)
      refine R_store 3 (n := .skip) (w' := w7.drew.setRow w.heap.size (pgCs (pg q) A c)) rfl rfl (by rfl) (by kernel_rfl) ?_ (.inl rfl) (fun _ => hB58) ?_
      · exact run_op_store _ _ _ _ _ rfl rfl rfl (page_store hB57.drew)
      refine R_tk 4 6 hB58 ?_
      simp only [List.setIfInBounds_toArray, List.set_cons_zero, List.set_cons_succ]
      refine R_done (by kernel_rfl) ?_ _
      rename_i K9 hK9
      refine hK9 _ _ ?_
      clear hK9
      have hT8t := (hT7t.drew).setRow (.inl rfl) (pgCs (pg q) A c)
      generalize hw8 : World.setRow _ w.heap.size _ = w8 at hB58 hT8t ⊢
      clear hw8
      go_wp2_with fail
      rw [Exit.noGoto_ret]
      have hTw : Turns (fun b => (Value.slice A0 m cc0).ownBlock = some b ∨ b = w.heap.size) (fun b => (Value.slice A0 m cc0).ownBlock = some b ∨ b = w.heap.size) w4 w8 :=
        (hT6t.wider (F := fun b => (Value.slice A0 m cc0).ownBlock = some b ∨ b = w.heap.size) (F' := fun b => (Value.slice A0 m cc0).ownBlock = some b ∨ b = w.heap.size) (fun b hb => .inl hb) (fun b hb => .inl hb)).trans (hT8t.wider (fun b hb => .inr hb) (fun b hb => .inl hb))
      have hs8 := hT8t.size
      have hne5 : ∀ b, (Value.slice A0 m cc0).ownBlock = some b ∨ b = w.heap.size → w.heap.size ≤ b := fun b hb => by
        rcases hb with hb | hb
        · have := hOb b hb; omega
        · omega
      have hvb : ∀ b, v'.ownBlock = some b → w.heap.size + 1 ≤ b ∧ b < w6.heap.size := fun b hb => ⟨(q1.lt b hb).1, (q1.lt b hb).2⟩
      have hown8 : w8.ownsRow w.heap.size 69 2 v' steps.length (stC2 steps) := by
        have e := HST.out
        have el : steps.length = m + 1 := by rw [← e, List.length_append, hpl]; rfl
        rw [el, ← e, stC2_app]
        exact row_mono (row_keep' q1 (fun b hb => hT8t.block b (hvb b hb).2 (fun h => by have h : b = w.heap.size := h; have := (hvb b hb).1; omega))) (by omega)
      have hR8 : RowsAt (fun b => w.heap.size ≤ b ∧ rowK A (pg q).rows.length b) w8 A (pg q).rows := by
        refine (hR4.keep hTw.size (fun b hb => hTw.block b (rowK_of hR4 hb.2).2 (fun h => ?_))).mono (fun b hb => ⟨by have := hb.1; omega, hb.2⟩)
        have h2 := hb.1
        rcases h with h | h
        · have := hOl b h; omega
        · omega
      have hTr : TrAt ly pg (fun b => K b ∨ rowK A (pg q).rows.length b ∨ v'.ownBlock = some b) w8 gt root ga gd gl gp n := by
        refine hT4.go hTw (fun b hb => .inl ⟨?_, fun e => ?_, fun e => ?_⟩) (fun b hb => ?_) (.inl hKa) (.inl hKt)
        · exact hb.elim (fun h => .inl (.inl (.inr (.inr h)))) (fun h => .inl (.inl (.inr (.inl h))))
        · have := hne5 b hb; have := HLT.out ga hKa; omega
        · have := hne5 b hb; have := HLT.out gt hKt; omega
        · rcases hb with hb | hb | hb
          · exact .inl (.inl (.inl (.inl hb)))
          · exact .inl (.inl (.inr hb))
          · rcases q3 b hb with h | h
            · exact .inl (.inl (.inl (.inr (.inr h))))
            · exact .inr ⟨by simp at h; omega, Nat.lt_of_lt_of_le (hvb b hb).2 hs8⟩
      have hK8 : Kept K w w8 := hK4.trans (Kept.of_turns hTw (fun b hb => ⟨by have := HLT.out b hb; omega, fun h => by have := hne5 b h; have := HLT.out b hb; omega⟩))
      have z0 := hB58.cell 0
      have z1 := hB58.cell 1
      have z2 := hB58.cell 2
      have z3 := hB58.cell 3
      have z4 := hB58.cell 4
      have z5 := hB58.cell 5
      simp only [List.getElem?_toArray, List.getElem?_cons_succ, List.getElem?_cons_zero] at z0 z1 z2 z3 z4 z5
      clear hTw hT8t hT7t hT6t hB58 hB57 hB56 hB86 hT4 hR4 hO4 hK4 hS7 q1 q3
      exact bodyPost_ret (v := .tuple #[v', pgV (pg q) A c, .int .i64 0]) (by rw [results_tct rfl]; go_simp) rfl ⟨v', A, c, rfl, hown8, HA.out, hR8, hTr, hK8⟩
    | inner es =>
      have hkd : (pg q).kind = 2 := HOKX.out.1.1
      have d1 : decide (((pg q).kind : Int) = 1) = false := by rw [decide_eq_false_iff_not]; omega
      have d2 : (((pg q).kind : Int) == 1) = false := by rw [beq_eq_false_iff_ne]; omega
      clear hkd
      obtain ⟨e, he⟩ : ∃ e, es[Sp.childK (es.map (·.key)) k]? = some e := by
        cases hx : es[Sp.childK (es.map (·.key)) k]? with
        | none => have := HWAY.out; simp only [hx] at this; cases this
        | some e => exact ⟨e, rfl⟩
      obtain ⟨post', hway', hpost⟩ : ∃ post', Sp.wayF kn k f e.child = some (post', leaf) ∧ post = (q, Sp.childK (es.map (·.key)) k) :: post' := by
        have := HWAY.out
        simp only [he] at this
        cases hx : Sp.wayF kn k f e.child with
        | none => rw [hx] at this; cases this
        | some y => 
          rw [hx] at this
          simp only [Option.map_some, Option.some.injEq, Prod.mk.injEq] at this
          exact ⟨y.1, by rw [← this.2], this.1.symm⟩
      have HW' := Lib.hid hway'
      have HPO := Lib.hid hpost
      have HCH := Lib.hid (node_child (c := c) HOKX.out.1 HOKX.out.2 HMAY.out hR4 k he)
      have HB5 := Lib.hid hB54
      have HT := Lib.hid hT4
      have HO := Lib.hid hO4
      have HK4 := Lib.hid hK4
      generalize Sp.childK (es.map (·.key)) k = at_ at HPO HCH
      clear hway' hpost he hB54 hT4 hO4 hK4 hR4
      go_wp2_with fail
      refine HCH.out.mono ?_
      rintro x w5 ⟨rfl, hb5⟩
      have hO5 : w5.ownsRow (w.heap.size + 1) 69 2 (.slice A0 m cc0) m (stC2 pre) := row_keep' HO.out (fun b hb => hb5.block b (HO.out.lt b hb).2)
      have hT5 := HT.out.below hb5
      have hB55 := HB5.out.below hb5 HB5.out.lt
      have hK5 := HK4.out.trans (Kept.of_below hb5 (fun b hb => HT.out.lt b (.inl (.inl (.inl hb)))))
      have hs5 := hb5.size
      have hNs := Blk.new w5 69 #[.int .u32 q, .int .i64 at_]
      clear HCH HT HB5 HO HK4 hb5 c0 c1 c2 c3 c4 c5 hB84
      go_wp2_with (at_builtin; refine wpList_append_own2 _ rfl _ _ 55 rfl (w.heap.size + 1) 69 is (.agg #[.int .u32 0, .int .i64 0]) 2 16 Tryz.underlying55 his hz0 hz1 hz2 rfl (by decide) _ m (stC2 pre) rfl (hO5.alloc _) ⟨w5.heap.size, 0, none⟩ 1 1 [.int .u32 q, .int .i64 at_] rfl rfl (blk_news hNs) (fun x hx => by simp at hx; rcases hx with rfl | rfl <;> rfl) (by unfold maxLen; omega) (by omega) (by simp; omega) ?_)
      intro v' w6 q1 q2 q3
      have hOb : ∀ b, (Value.slice A0 m cc0).ownBlock = some b → w.heap.size + 1 ≤ b := fun b hb => (hO5.lt b hb).1
      have hT6t : Turns (fun b => (Value.slice A0 m cc0).ownBlock = some b) (fun b => (Value.slice A0 m cc0).ownBlock = some b) w5 w6 := ((Turns.refl _ w5).alloc (.cells #[.int .u32 q, .int .i64 at_] 69)).grown q2 (fun b hb => .inl hb)
      have hs6 := q2.size
      have HREL6 : Hid (WayRel ly pg kn k K w gt root ga gd gl gp n w.heap.size steps leaf (m + 1) v' e.child w6) := Lib.hid (by
        refine ⟨pre ++ [(q, at_)], post', by simp [hpl], ?_, ?_, ?_, hB55.turns hT6t (fun h => by have := hOb _ h; omega), ?_, hK5.trans (Kept.of_turns hT6t (fun b hb => ⟨by have := HLT.out b hb; omega, fun h => by have := hOb _ h; have := HLT.out b hb; omega⟩)), by have := hT6t.size; omega⟩
        · rw [show 8 - (m + 1) = f by have := hf.out; omega]; exact HW'.out
        · rw [List.append_assoc]
          have := HST.out
          rw [HPO.out] at this
          exact this
        · rw [stC2_app]
          exact q1
        · refine hT5.go hT6t (fun b hb => .inl ⟨.inl (.inl (.inr (.inr hb))), fun e => ?_, fun e => ?_⟩) (fun b hb => ?_) (.inl hKa) (.inl hKt)
          · have := hOb _ hb; have := HLT.out ga hKa; omega
          · have := hOb _ hb; have := HLT.out gt hKt; omega
          · rcases hb with hb | hb | hb
            · exact .inl (.inl (.inl (.inl hb)))
            · exact .inl (.inl (.inl (.inr (.inl hb))))
            · rcases q3 b hb with h | h
              · exact .inl (.inl (.inl (.inr (.inr h))))
              · exact .inr ⟨by omega, (q1.lt b hb).2⟩)
      obtain ⟨A6, c6, hv6⟩ := row_shape q1
      subst hv6
      clear q1 q2 q3 hT5 hB55 hK5 hO5 hT6t hNs
      go_wp2_with fail
      go_roundw
      case rel => exact ⟨m + 1, e.child, _, rfl, rfl, by omega, HREL6.out⟩
      case measure => show 8 - (m + 1) < 8 - m; omega
end Go.Proofs.YtafopojibpifoaaGreat

/- The walk of the law package pentimentolaw18: Grown: the pages of a tree of rows that rise. -/
namespace Go.Proofs.YtafopojibpifoaaGreat
open Go.RowKit Go.Conc

namespace Sp
/-- The list of a grown tree's pages: how many, which. -/
def grownN (n : Nat) (rs : List Rw) : Nat := if lvN n rs.length < 2 then 1 else lvN n rs.length + 1
def grownF (n : Nat) (rs : List Rw) (q : Nat) : Pg := if lvN n rs.length < 2 then rootPg n rs else if q < lvN n rs.length then lvPg n rs q else rootPg n rs
theorem rootPg_id (n : Nat) (rs : List Rw) : (rootPg n rs).id = 1 := by
  unfold rootPg
  split <;> rfl
/-- Which page has a number. -/
theorem pick_grown {n : Nat} {rs : List Rw} {q : Nat} (_h1 : 1 ≤ q) : pick ((List.range (grownN n rs)).map (grownF n rs)) q = grown n rs q := by
  have key : ∀ k x, (∀ j, j < k → (grownF n rs j).id ≠ q) → ((List.range k).map (grownF n rs)).foldl (fun x p => if p.id = q then p else x) x = x := fun k => by
    induction k with
    | zero => intro x _; rfl
    | succ k ih =>
      intro x h
      rw [List.range_succ, List.map_append, List.foldl_append, ih x (fun j hj => h j (by omega))]
      simp only [List.map_cons, List.map_nil, List.foldl_cons, List.foldl_nil]
      rw [if_neg (h k (by omega))]
  have split : ∀ (m k : Nat) (x : Pg), m < k → (grownF n rs m).id = q → (∀ j, j < k → m < j → (grownF n rs j).id ≠ q) → ((List.range k).map (grownF n rs)).foldl (fun x p => if p.id = q then p else x) x = grownF n rs m := fun m k => by
    induction k with
    | zero => intro x h _ _; omega
    | succ k ih =>
      intro x hm he h
      rw [List.range_succ, List.map_append, List.foldl_append]
      simp only [List.map_cons, List.map_nil, List.foldl_cons, List.foldl_nil]
      by_cases e : m = k
      · subst e; rw [if_pos he]
      · rw [if_neg (h k (by omega) (by omega))]
        exact ih x (by omega) he (fun j hj hmj => h j (by omega) hmj)
  unfold pick
  by_cases h2 : lvN n rs.length < 2
  · have hN : grownN n rs = 1 := by unfold grownN; rw [if_pos h2]
    have hF : ∀ j, grownF n rs j = rootPg n rs := fun j => by unfold grownF; rw [if_pos h2]
    rw [hN]
    by_cases e : q = 1
    · rw [split 0 1 _ (by omega) (by rw [hF, rootPg_id, e]) (fun j hj hj2 => by omega), hF, e, grown_root]
    · rw [key 1 _ (fun j hj => by rw [hF, rootPg_id]; omega)]
      unfold grown
      rw [if_neg e, if_neg (by omega)]
  · have hN : grownN n rs = lvN n rs.length + 1 := by unfold grownN; rw [if_neg h2]
    have hF : ∀ j, j < lvN n rs.length → grownF n rs j = lvPg n rs j := fun j hj => by unfold grownF; rw [if_neg h2, if_pos hj]
    have hR : grownF n rs (lvN n rs.length) = rootPg n rs := by unfold grownF; rw [if_neg h2, if_neg (by omega)]
    rw [hN]
    by_cases e : q = 1
    · rw [split (lvN n rs.length) _ _ (by omega) (by rw [hR, rootPg_id, e]) (fun j hj hj2 => by omega), hR, e, grown_root]
    · by_cases h3 : 3 ≤ q ∧ q < 3 + lvN n rs.length
      · have hq : q = 3 + (q - 3) := by omega
        rw [split (q - 3) _ _ (by omega) (by rw [hF _ (by omega)]; show 3 + (q - 3) = q; omega) (fun j hj hj2 => by
          by_cases ej : j = lvN n rs.length
          · subst ej; rw [hR, rootPg_id]; omega
          · rw [hF j (by omega)]; show 3 + j ≠ q; omega), hF _ (by omega)]
        unfold grown
        rw [if_neg e, if_pos ⟨by omega, h3.1, h3.2⟩]
      · rw [key _ _ (fun j hj => by
          by_cases ej : j = lvN n rs.length
          · subst ej; rw [hR, rootPg_id]; omega
          · rw [hF j (by omega)]; show 3 + j ≠ q; omega)]
        unfold grown
        rw [if_neg e, if_neg (fun h => h3 ⟨h.2.1, h.2.2⟩)]
end Sp

/-- A part of rows in memory. -/
theorem RwsAt.sub {G : Foot} {w : World} {b o : Nat} {l : List Sp.Rw} (h : RwsAt G w (some ⟨b, o, none⟩) l) (i k : Nat) (hi : i < l.length) : RwsAt G w (some ⟨b, o + i * 7, none⟩) ((l.drop i).take k) := by
  refine ⟨by rw [cellsOf_length rwCs 7 (fun _ => rfl)], fun _ => ?_⟩
  obtain ⟨b', o', e, hg, hl, hc⟩ := h.2 (by omega)
  injection e with e
  injection e with e1 e2
  subst e1 e2
  refine ⟨b, o + i * 7, rfl, hg, hl, fun j u hu => ?_⟩
  have hj : j < ((l.drop i).take k).length * 7 := by
    have := (List.getElem?_eq_some_iff.1 hu).1
    rwa [cellsOf_length rwCs 7 (fun _ => rfl)] at this
  have hjl : j / 7 < ((l.drop i).take k).length := by omega
  have ej : j = j / 7 * 7 + j % 7 := by omega
  rw [ej, cellsOf_get rwCs 7 (fun _ => rfl) _ (j / 7) (j % 7) hjl (by omega)] at hu
  have hle : j / 7 < k ∧ i + j / 7 < l.length := by rw [List.length_take, List.length_drop] at hjl; omega
  have e3 : ((l.drop i).take k)[j / 7] = l[i + j / 7]'hle.2 := by rw [List.getElem_take, List.getElem_drop]
  rw [e3, ← cellsOf_get rwCs 7 (fun _ => rfl) l (i + j / 7) (j % 7) hle.2 (by omega)] at hu
  have := hc _ _ hu
  have e4 : o + ((i + j / 7) * 7 + j % 7) = o + i * 7 + j := by omega
  rw [e4] at this
  exact this

theorem en_info : (Tryz.prog.info? 66).map (fun i => (i.zero, i.size, i.bytes)) = some (some (.agg #[str [], .int .u32 0]), 2, 24) := by kernel_rfl
/-- While the leaves are laid. -/
def grG (w0 : Nat) (v u : Value) : Foot := fun b => w0 ≤ b ∧ v.ownBlock ≠ some b ∧ u.ownBlock ≠ some b
def GrAt (w : World) (n : Nat) (l : List Sp.Rw) (m : Nat) (v u : Value) (wr : World) : Prop :=
  PgOwn w.heap.size (grG w.heap.size v u) v m (Sp.lvPg n l) wr ∧ wr.ownsRow w.heap.size 66 2 u m ((List.range m).flatMap fun i => enCs ⟨Sp.sep n l i, 3 + i⟩) ∧ (∀ b, v.ownBlock = some b → u.ownBlock ≠ some b) ∧ Below w.heap.size w wr
/-- One leaf more. -/
theorem GrAt.more {w : World} {n : Nat} {l : List Sp.Rw} {m : Nat} {v u v2 u2 : Value} {wr w3 wc w5 w7 : World} {g : Nat} {A2 : Option Addr} {c2 : Nat} {o5 o7 : Obj} {A : Nat → Option Addr} {c : Nat → Nat}
    (O1 : wr.ownsRow w.heap.size 51 6 v m ((List.range m).flatMap fun q => pgl (Sp.lvPg n l q) (A q) (c q))) (OR : ∀ q, q < m → RowsAt (grG w.heap.size v u) wr (A q) (Sp.lvPg n l q).rows)
    (O2 : wr.ownsRow w.heap.size 66 2 u m ((List.range m).flatMap fun i => enCs ⟨Sp.sep n l i, 3 + i⟩)) (O3 : ∀ b, v.ownBlock = some b → u.ownBlock ≠ some b) (hb : Below w.heap.size w wr)
    (hb23 : Below wr.heap.size wr w3) (hg : wr.heap.size ≤ g) (hgl : g < w3.heap.size) (hR3 : RowsAt (fun b => wr.heap.size ≤ b ∧ b < g) w3 A2 (Sp.lvPg n l m).rows) (hT : Turns (only g) (only g) w3 wc)
    (E1 : w5.ownsRow w.heap.size 66 2 u2 (m + 1) (((List.range m).flatMap fun i => enCs ⟨Sp.sep n l i, 3 + i⟩) ++ enCs ⟨Sp.sep n l m, 3 + m⟩)) (E2 : (wc.alloc o5).grownBy w5 u.ownBlock) (E3 : ∀ k, u2.ownBlock = some k → u.ownBlock = some k ∨ (wc.alloc o5).heap.size ≤ k)
    (P1 : w7.ownsRow w.heap.size 51 6 v2 (m + 1) (((List.range m).flatMap fun q => pgl (Sp.lvPg n l q) (A q) (c q)) ++ pgl (Sp.lvPg n l m) A2 c2)) (P2 : (w5.alloc o7).grownBy w7 v.ownBlock) (P3 : ∀ k, v2.ownBlock = some k → v.ownBlock = some k ∨ (w5.alloc o7).heap.size ≤ k) : GrAt w n l (m + 1) v2 u2 w7 := by
  have s1 := hb23.size
  have s2 := hT.size
  have s3 : wc.heap.size + 1 ≤ w5.heap.size := by have := E2.size; simpa using this
  have s4 : w5.heap.size + 1 ≤ w7.heap.size := by have := P2.size; simpa using this
  have hs := hb.size
  have vl : ∀ b, v.ownBlock = some b → b < wr.heap.size := fun b h => (O1.lt b h).2
  have ul : ∀ b, u.ownBlock = some b → b < wr.heap.size := fun b h => (O2.lt b h).2
  have u2l : ∀ b, u2.ownBlock = some b → b < w5.heap.size := fun b h => (E1.lt b h).2
  have E3' : ∀ k, u2.ownBlock = some k → u.ownBlock = some k ∨ wc.heap.size < k := fun k h => (E3 k h).imp id (fun h => by have h : (wc.alloc o5).heap.size ≤ k := h; rw [World.size_alloc] at h; omega)
  have P3' : ∀ k, v2.ownBlock = some k → v.ownBlock = some k ∨ w5.heap.size < k := fun k h => (P3 k h).imp id (fun h => by have h : (w5.alloc o7).heap.size ≤ k := h; rw [World.size_alloc] at h; omega)
  -- what is neither turned nor grown
  have far : ∀ b, b < wc.heap.size → u.ownBlock ≠ some b → v.ownBlock ≠ some b → w7.heap[b]? = wc.heap[b]? := fun b h1 h2 h3 => by
    have e1 := P2.block b (by simp; omega) (fun e => h3 e.symm)
    have e2 := Below.heap_alloc w5 o7 b (by omega)
    have e3 := E2.block b (by simp; omega) (fun e => h2 e.symm)
    have e4 := Below.heap_alloc wc o5 b h1
    exact e1.trans (e2.trans (e3.trans e4))
  have far3 : ∀ b, b < w3.heap.size → b ≠ g → u.ownBlock ≠ some b → v.ownBlock ≠ some b → w7.heap[b]? = w3.heap[b]? := fun b h1 h2 h3 h4 => (far b (by omega) h3 h4).trans (hT.block b h1 h2)
  have old : ∀ b, b < wr.heap.size → u.ownBlock ≠ some b → v.ownBlock ≠ some b → w7.heap[b]? = wr.heap[b]? := fun b h1 h3 h4 => (far3 b (by omega) (by omega) h3 h4).trans (hb23.block b h1)
  refine ⟨PgOwn.more (fun q hq => ?_) ?_ P1, ?_, fun b hv hu => ?_, ?_⟩
  · refine (Reads.in_ (OR q hq)).keep (by omega) (fun b hb => old b hb.2 (fun e => hb.1.2.2 e) (fun e => hb.1.2.1 e)) |>.mono (fun b hb => ⟨hb.1.1, fun e => ?_, fun e => ?_⟩)
    · rcases P3' b e with h | h
      · exact hb.1.2.1 h
      · have := hb.2; omega
    · rcases E3' b e with h | h
      · exact hb.1.2.2 h
      · have := hb.2; omega
  · refine (hR3.keep (w' := w7) (by omega) (fun b hb => far3 b (by have := hb.2; omega) (by have := hb.2; omega) (fun e => by have := ul b e; have := hb.1; omega) (fun e => by have := vl b e; have := hb.1; omega))).mono (fun b hb => ⟨by have := hb.1; omega, fun e => ?_, fun e => ?_⟩)
    · have h1 := hb.1
      have h2 := hb.2
      rcases P3' b e with h | h
      · have := vl b h; omega
      · omega
    · have h1 := hb.1
      have h2 := hb.2
      rcases E3' b e with h | h
      · have := ul b h; omega
      · omega
  · rw [List.range_succ, List.flatMap_append]
    have e : ((List.range m).flatMap fun i => enCs ⟨Sp.sep n l i, 3 + i⟩) ++ List.flatMap (fun i => enCs ⟨Sp.sep n l i, 3 + i⟩) [m] = ((List.range m).flatMap fun i => enCs ⟨Sp.sep n l i, 3 + i⟩) ++ enCs ⟨Sp.sep n l m, 3 + m⟩ := by simp
    rw [e]
    refine row_keep' E1 (fun b hb => ?_)
    have h2 := u2l b hb
    refine (P2.block b (by simp; omega) (fun e => ?_)).trans (Below.heap_alloc w5 o7 b h2)
    rcases E3' b hb with h | h
    · exact O3 b e.symm h
    · have := vl b e.symm; omega
  · have h2 := u2l b hu
    rcases P3' b hv with h | h
    · rcases E3' b hu with h3 | h3
      · exact O3 b h h3
      · have := vl b h; omega
    · omega
  · have hT' : Below w.heap.size w3 wc := hT.below (by omega) (fun b hb => by have e : b = g := hb; omega)
    have h5 : Below w.heap.size wc w5 := (((Below.refl w.heap.size wc).alloc (by omega) o5).grown E2 (by simp; omega) (fun r e => by have := row_base O2 e; omega))
    have h7 : Below w.heap.size w5 w7 := (((Below.refl w.heap.size w5).alloc (by omega) o7).grown P2 (by simp; omega) (fun r e => by have := row_base O1 e; omega))
    exact hb.trans ((hb23.mono hs).trans (hT'.trans (h5.trans h7)))
theorem own_one (w : World) (base : Nat) (h : base ≤ w.heap.size) (cs : List Value) (hcs : cs.length = 6) : (w.alloc (.cells cs.toArray 51)).ownsRow base 51 6 (.slice (some ⟨w.heap.size, 0, none⟩) 1 1) 1 cs :=
  ⟨by omega, .inr ⟨w.heap.size, 1, cs.toArray, rfl, h, heap_alloc_new w _, by omega, by unfold maxLen; omega, by simp [hcs], by simp [List.take_of_length_le (Nat.le_of_eq hcs)]⟩⟩
/-- What Grown hands back. -/
def GrownPost (w : World) (n : Nat) (l : List Sp.Rw) (e : Ending) (w' : World) : Prop :=
  ∃ v, e = .returned v ∧ PgOwn w.heap.size (fun b => w.heap.size ≤ b ∧ v.ownBlock ≠ some b) v (Sp.grownN n l) (Sp.grownF n l) w' ∧ Below w.heap.size w w'

set_option maxRecDepth 100000 in
set_option maxHeartbeats 8000000 in
theorem law18_grown (e n : Nat) (hn : n = 1 + e % 3) (he : e < 256) {w : World} {G : Foot} {l : List Sp.Rw} {A : Option Addr} {cap : Nat} (hR : RwsAt G w A l) (hok : ∀ r ∈ l, r.may ∧ r.wf) (hl : l.length ≤ 1000) (hc : l.length ≤ cap) :
    Calls Tryz.prog 8 #[.slice A l.length cap, .int .u8 e] w (GrownPost w n l) := by
  obtain ⟨ip, hip, hp0, hp1, hp2⟩ := info_parts page_info
  obtain ⟨ie, hie, hq0, hq1, hq2⟩ := info_parts en_info
  have HR := Lib.hid hR
  have HOK := Lib.hid hok
  have hrem : (e : Int).tmod 3 = ((e % 3 : Nat) : Int) := by rw [Int.tmod_eq_emod_of_nonneg (by omega)]; omega
  have hn1 : 1 ≤ n := by omega
  have hn3 : n ≤ 3 := by omega
  have HN := Lib.hid hn
  clear hR hok
  go_enter Tryz.func8, Tryz.ntmps8
  go_upto_block 4 with fail
  have hne : (1 + (e : Int) % 3) = (n : Int) := by omega
  rw [hne]
  clear hne hrem he hn
  go_loopw [6, 7, 8, 9] (fun v u d i wr => ∃ (m : Nat) (v' u' : Value), v' = v ∧ u' = u ∧ m ≤ Sp.lvN n l.length ∧ d = .int .u32 (3 + m : Nat) ∧ i = .int .i64 (m * n : Nat) ∧ GrAt w n l m v' u' wr) (fun _ _ _ i _ => l.length - (intOf i).toNat)
  case atStart => exact ⟨0, _, _, rfl, rfl, by omega, rfl, by simp, PgOwn.zero _ _ _ _, World.ownsRow_nil _ _ _ _, fun b hb => by simp [Value.ownBlock] at hb, Below.refl _ _⟩
  case round =>
    obtain ⟨m, v, u, rfl, rfl, hm, rfl, rfl, hG⟩ := hrel
    have hmn : m * n < l.length ↔ m < Sp.lvN n l.length := (Sp.lvN_lt hn1).symm
    have hlvl := Sp.lvN_le (n := n) (len := l.length) hn1
    have hmn2 : (m + 1) * n = m * n + n := by rw [Nat.add_mul, Nat.one_mul]
    have HG := Lib.hid hG
    clear hG
    by_cases hlt : m * n < l.length
    · have hmlt := hmn.1 hlt
      have HF := Lib.hid (show Sp.lvPg n l m = ⟨1, 0, 3 + m, 0, if (m + 1) * n < l.length then 4 + m else 0, (Sp.lvRows n l m).map Sp.Rw.bytes⟩ from rfl)
      have HSEP := Lib.hid (show Sp.sep n l m = if m = 0 then [] else l[m * n].key by
        unfold Sp.sep
        rw [List.getElem?_eq_getElem hlt]; rfl)
      obtain ⟨O1, O2, O3, hb⟩ := HG.out
      have hRr := HR.out.below hb
      obtain ⟨b, o, rfl, hbl, c0, _⟩ := RwsAt.cells hRr hlt
      have HSUB := Lib.hid (show RwsAt G wr (some ⟨b, o + m * n * 7, none⟩) (Sp.lvRows n l m) from RwsAt.sub hRr (m * n) n hlt)
      have hsl : (Sp.lvRows n l m).length = min n (l.length - m * n) := Sp.lvRows_length n l m
      have HMN := Lib.hid hmn2
      have HBL := Lib.hid hb
      obtain ⟨kk, hkk⟩ : ∃ kk, kk = l[m * n].key := ⟨_, rfl⟩
      rw [← hkk] at HSEP c0
      clear O1 O2 O3 hRr hb hmn hmn2 hkk
      obtain ⟨i, hi⟩ : ∃ i, i = m * n := ⟨_, rfl⟩
      obtain ⟨d, hd⟩ : ∃ d, d = 3 + m := ⟨_, rfl⟩
      rw [← hi] at HSUB hsl HMN c0 hlt ⊢
      rw [← hd] at ⊢
      have HI := Lib.hid hi
      have HD := Lib.hid hd
      have hd1 : d < 10000 := by omega
      have hin : i ≤ 1000 := by omega
      obtain ⟨q, hq⟩ : ∃ q, q = min (i + n) l.length := ⟨_, rfl⟩
      have hmin : min ((i : Int) + (n : Int)) (l.length : Int) = (q : Int) := by omega
      have hqn : (i + n < l.length ∧ decide ((l.length : Int) ≤ (i : Int) + (n : Int)) = false) ∨ (l.length ≤ i + n ∧ decide ((l.length : Int) ≤ (i : Int) + (n : Int)) = true) := by
        by_cases h : i + n < l.length
        · exact .inl ⟨h, by rw [decide_eq_false_iff_not]; omega⟩
        · exact .inr ⟨by omega, by rw [decide_eq_true_eq]; omega⟩
      have hqi : i ≤ q := by omega
      have hqc : q ≤ cap := by omega
      have hql : (Sp.lvRows n l m).length = q - i := by omega
      have HL := Lib.hid fun (W : World) (hRW : RwsAt G W (some ⟨b, o + i * 7, none⟩) (Sp.lvRows n l m)) => law18_leaf d (d + 1) (cap := cap - i) hRW (fun r hr => HOK.out r (Sp.lvRows_mem hr)) (by omega)
      rw [hql] at HL
      clear hi hd hq hsl
      have wrd : IntKind.u32.wrap ((d : Int) + 1) = ((d + 1 : Nat) : Int) := by rw [IntKind.wrap_u32]; omega
      go_upto_region 9 with fail
      refine (HL.out wr HSUB.out).mono ?_
      rintro e1 w2 ⟨A2, c2, rfl, hA2, hR2, hb2⟩
      have hs2 := hb2.size
      have hb3 := (Below.refl w2.heap.size w2).alloc (Nat.le_refl _) (.cells #[.int .u8 1, .int .u8 0, .int .u32 d, .int .u64 0, .int .u32 ((d : Int) + 1), .slice A2 (q - i) c2] 51)
      have hB3 := Blk.new w2 51 #[.int .u8 1, .int .u8 0, .int .u32 d, .int .u64 0, .int .u32 ((d : Int) + 1), .slice A2 (q - i) c2]
      have hR3 : RowsAt (fun b => wr.heap.size ≤ b ∧ b < w2.heap.size) (w2.alloc (.cells #[.int .u8 1, .int .u8 0, .int .u32 d, .int .u64 0, .int .u32 ((d : Int) + 1), .slice A2 (q - i) c2] 51)) A2 ((Sp.lvRows n l m).map Sp.Rw.bytes) := Reads.below (Reads.in_ hR2) hb3
      have hb23 : Below wr.heap.size wr _ := hb2.trans (hb3.mono hs2)
      clear HL HSUB hb2 hb3 hR2
      go_upto_if 41 with fail
      change Code.wp _ _ _ _ (w2.alloc (.cells #[.int .u8 1, .int .u8 0, .int .u32 d, .int .u64 0, .int .u32 ((d : Int) + 1), .slice A2 (q - i) c2] 51)) 
      obtain ⟨g, hg⟩ : ∃ g, g = w2.heap.size := ⟨_, rfl⟩
      have hgl := hB3.lt
      generalize hw3 : World.alloc w2 _ = w3 at hB3 hR3 hb23 hgl ⊢
      rw [← hg] at hB3 hR3 hs2 hgl ⊢
      clear hw3 hg
      obtain ⟨nx, hnx⟩ : ∃ nx : Nat, nx = (if i + n < l.length then d + 1 else 0) := ⟨_, rfl⟩
      have HNX := Lib.hid hnx
      clear hnx
      go_cut [] from 36 to 42 (fun wx => Blk wx g 51 #[.int .u8 1, .int .u8 0, .int .u32 d, .int .u64 0, .int .u32 nx, .slice A2 (q - i) c2] ∧ Turns (only g) (only g) w3 wx)
      case first =>
        rcases hqn with ⟨h, hd⟩ | ⟨h, hd⟩
        · have e1 : (d : Int) + 1 = (nx : Int) := by rw [HNX.out, if_pos h]; omega
          rw [e1] at hB3
          have HB3 := Lib.hid hB3
          clear e1 hB3
          go_wp2_with fail
          go_meet
          case rel => exact ⟨HB3.out, Turns.refl _ _⟩
        · have e1 : nx = 0 := by rw [HNX.out, if_neg (by omega)]
          have HE := Lib.hid e1
          have c4 := hB3.cell 4
          have f4 := hB3.frozen 4
          simp only [List.getElem?_toArray, List.getElem?_cons_succ, List.getElem?_cons_zero] at c4
          have HB3 := Lib.hid hB3
          clear e1 hB3
          go_wp2_with fail
          go_meet
          case rel => exact ⟨by rw [HE.out]; exact HB3.out.set_ 4 _, (Turns.refl (only g) w3).setCell (p := ⟨g, 4, none⟩) (.inl rfl) _⟩
      case rest =>
      obtain ⟨hBc, hTc⟩ := hcut
      have hbg : b ≠ g := by omega
      have c0c : wc.cell? ⟨b, o + i * 7, none⟩ = some (str kk) := (World.cell?_of_block (a := ⟨b, o + i * 7, none⟩) (hTc.block b (by have := hb23.size; omega) hbg)).trans ((hb23.cell (p := ⟨b, o + i * 7, none⟩) hbl).trans c0)
      have hi0 : (i = 0 ∧ m = 0) ∨ (i ≠ 0 ∧ m ≠ 0) := by
        rcases Nat.eq_zero_or_pos m with e | e
        · exact .inl ⟨by rw [HI.out, e, Nat.zero_mul], e⟩
        · exact .inr ⟨by rw [HI.out]; have := Nat.mul_le_mul e hn1; omega, by omega⟩
      have hwc := hTc.size
      have HBC := Lib.hid hBc
      have HTC := Lib.hid hTc
      clear hBc hTc hB3 c0 hbg hqn hmin
      go_upto_if 49 with fail
      go_cut [11] from 43 to 49 (fun x wx => x = str (Sp.sep n l m) ∧ wx = wc)
      case first =>
        rcases hi0 with ⟨h0, hm0⟩ | ⟨h0, hm0⟩
        · have e1 : decide ((i : Int) = 0) = true := by rw [decide_eq_true_eq]; omega
          have e2 : ((i : Int) == 0) = true := by rw [beq_iff_eq]; omega
          have HS := Lib.hid (show Sp.sep n l m = [] by rw [HSEP.out, if_pos hm0])
          clear h0 hm0
          go_wp2_with fail
          go_meet
          case rel => exact ⟨by rw [HS.out], rfl⟩
        · have e1 : decide ((i : Int) = 0) = false := by rw [decide_eq_false_iff_not]; omega
          have e2 : ((i : Int) == 0) = false := by rw [beq_eq_false_iff_ne]; omega
          have HS := Lib.hid (show Sp.sep n l m = kk by rw [HSEP.out, if_neg hm0])
          clear h0 hm0
          go_wp2_with fail
          go_meet
          case rel => exact ⟨by rw [HS.out], rfl⟩
      case rest =>
      obtain ⟨rfl, rfl⟩ := hcut
      clear c0c hi0
      obtain ⟨⟨A, c, O1, OR⟩, O2, O3, hb⟩ := HG.out
      have HO1 := Lib.hid O1
      have HOR := Lib.hid OR
      have HO2 := Lib.hid O2
      have HO3 := Lib.hid O3
      have O2c : wc.ownsRow w.heap.size 66 2 u m ((List.range m).flatMap fun i => enCs ⟨Sp.sep n l i, 3 + i⟩) := row_keep' O2 (fun b hb => (HTC.out.block b (by have := (O2.lt b hb).2; have := hb23.size; omega) (fun e => by have e : b = g := e; have := (O2.lt b hb).2; omega)).trans (hb23.block b (O2.lt b hb).2))
      have HO2C := Lib.hid O2c
      have hwsz : w.heap.size ≤ wc.heap.size := by have := hb.size; have := hb23.size; omega
      clear O1 OR O2 O3 O2c hb
      go_upto_region 15 with (at_builtin; refine wpList_append_own2 _ rfl _ _ 70 rfl w.heap.size 66 ie (.agg #[str [], .int .u32 0]) 2 24 Tryz.underlying70 hie hq0 hq1 hq2 rfl (by decide) _ m _ rfl (HO2C.out.alloc _) ⟨wc.heap.size, 0, none⟩ 1 1 [str (Sp.sep n l m), .int .u32 d] rfl rfl (blk_news (cs := [str (Sp.sep n l m), .int .u32 d]) (Blk.new wc 66 [str (Sp.sep n l m), .int .u32 d].toArray)) (fun x hx => by simp at hx; rcases hx with rfl | rfl <;> rfl) (by unfold maxLen; omega) (by omega) (by simp; omega) ?_; intro u2 w5 q1 q2 q3)
      have hv1 := fun b (h : v.ownBlock = some b) => (HO1.out.lt b h).2
      have hu1 := fun b (h : u.ownBlock = some b) => (HO2.out.lt b h).2
      have hw3 := hb23.size
      have hB5 := (HBC.out.alloc (.cells [str (Sp.sep n l m), .int .u32 d].toArray 66)).grown q2 (fun e => by have := hu1 g e.symm; omega)
      have O1c : w5.ownsRow w.heap.size 51 6 v m ((List.range m).flatMap fun q => pgl (Sp.lvPg n l q) (A q) (c q)) := row_keep' HO1.out (fun b hb => by
        have h1 := hv1 b hb
        refine (q2.block b (by simp; omega) (fun e => HO3.out b hb e.symm)).trans ((Below.heap_alloc wc _ b (by omega)).trans ((HTC.out.block b (by omega) (fun e => by have e : b = g := e; omega)).trans (hb23.block b h1))))
      have HO1C := Lib.hid O1c
      have hw5 : w.heap.size ≤ w5.heap.size := by have := q2.size; simp at this; omega
      obtain ⟨z0, z1, z2, z3, z4, z5⟩ := page_cells hB5
      have Q1 := Lib.hid q1
      have Q2 := Lib.hid q2
      have Q3 := Lib.hid q3
      clear q1 q2 q3 hB5 O1c
      go_wp2_with (at_builtin; refine wpList_append_own2 _ rfl _ _ 25 rfl w.heap.size 51 ip pgZero 6 48 Tryz.underlying25 hip hp0 hp1 hp2 rfl (by decide) _ m _ rfl (HO1C.out.alloc _) ⟨w5.heap.size, 0, none⟩ 1 1 [.int .u8 1, .int .u8 0, .int .u32 d, .int .u64 0, .int .u32 nx, .slice A2 (q - i) c2] rfl rfl (blk_news (cs := [.int .u8 1, .int .u8 0, .int .u32 d, .int .u64 0, .int .u32 nx, .slice A2 (q - i) c2]) (Blk.new w5 51 [.int .u8 1, .int .u8 0, .int .u32 d, .int .u64 0, .int .u32 nx, .slice A2 (q - i) c2].toArray)) (fun x hx => by simp at hx; rcases hx with rfl | rfl | rfl | rfl | rfl | rfl <;> rfl) (by unfold maxLen; omega) (by omega) (by simp; omega) ?_; intro v2 w7 r1 r2 r3)
      have hpg : pgl (Sp.lvPg n l m) A2 c2 = [.int .u8 1, .int .u8 0, .int .u32 d, .int .u64 0, .int .u32 nx, .slice A2 (q - i) c2] := by
        have e2 : (if (m + 1) * n < l.length then 4 + m else 0) = nx := by
          rw [HNX.out, HMN.out, HD.out]
          by_cases h : i + n < l.length
          · rw [if_pos h, if_pos h]; omega
          · rw [if_neg h, if_neg h]
        show [Value.int .u8 1, .int .u8 0, .int .u32 ((3 + m : Nat) : Int), .int .u64 0, .int .u32 ((if (m + 1) * n < l.length then 4 + m else 0 : Nat) : Int), .slice A2 ((Sp.lvRows n l m).map Sp.Rw.bytes).length c2] = _
        rw [e2, List.length_map, hql, ← HD.out]
      have hen : enCs ⟨Sp.sep n l m, 3 + m⟩ = [str (Sp.sep n l m), .int .u32 d] := by rw [HD.out]
      have E1 := Q1.out
      have P1 := r1
      rw [← hen] at E1
      rw [← hpg] at P1
      have HF := Lib.hid (GrAt.more HO1.out HOR.out HO2.out HO3.out HBL.out hb23 hs2 hgl hR3 HTC.out E1 Q2.out Q3.out P1 r2 r3)
      have hfd : d + 1 = 3 + (m + 1) := by rw [HD.out]; omega
      have hfi : i + n = (m + 1) * n := by rw [HMN.out]
      have HFD := Lib.hid hfd
      have HFI := Lib.hid hfi
      clear r1 r2 r3 hpg hen E1 P1 Q1 Q2 Q3 HO1 HOR HO2 HO3 HTC HBC HO1C HO2C hfd hfi z0 z1 z2 z3 z4 z5
      go_roundw
      case rel => exact ⟨m + 1, v2, u2, rfl, rfl, hmlt, by rw [← HFD.out]; go_num, by rw [← HFI.out]; go_num, HF.out⟩
      case measure => simp [intOf]; omega
    · obtain ⟨M, hM⟩ : ∃ M, M = Sp.lvN n l.length := ⟨_, rfl⟩
      have hmM : m = M := by omega
      obtain ⟨i, hi⟩ : ∃ i, i = m * n := ⟨_, rfl⟩
      obtain ⟨dd, hdd⟩ : ∃ d, d = 3 + m := ⟨_, rfl⟩
      rw [← hi] at hlt ⊢
      rw [← hdd]
      clear hi hdd
      have HM := Lib.hid hM
      subst hmM
      clear hM hmn hmn2 hlvl
      obtain ⟨⟨A', c', O1, OR⟩, O2, O3, hb⟩ := HG.out
      obtain ⟨Ao, co, rfl⟩ := row_shape O1
      obtain ⟨Au, cu, rfl⟩ := row_shape O2
      have hRr := HR.out.below hb
      have hm8 : m ≤ 1000 := by
        have := Sp.lvN_le (n := n) (len := l.length) hn1
        have := HM.out; omega
      have hs := hb.size
      have HB := Lib.hid hb
      by_cases h2 : m < 2
      · have HLF := Lib.hid (law18_leaf 1 0 (cap := cap) hRr HOK.out (by omega))
        have HF0 := Lib.hid (show Sp.grownN n l = 1 ∧ Sp.grownF n l 0 = ⟨1, 0, 1, 0, 0, l.map Sp.Rw.bytes⟩ by
          unfold Sp.grownN Sp.grownF Sp.rootPg
          rw [← HM.out, if_pos h2, if_pos h2, if_pos h2]; exact ⟨rfl, rfl⟩)
        have d2 : decide ((m : Int) < 2) = true := by rw [decide_eq_true_eq]; omega
        clear O1 OR O2 O3 hb hRr HG
        go_wp2_with fail
        refine HLF.out.mono ?_
        rintro e1 w2 ⟨A2, c2, rfl, hA2, hR2, hb2⟩
        have hs2 := hb2.size
        have hO := own_one w2 w.heap.size (by omega) [.int .u8 1, .int .u8 0, .int .u32 1, .int .u64 0, .int .u32 0, .slice A2 l.length c2] rfl
        have hR3 := Reads.below (Reads.in_ hR2) ((Below.refl w2.heap.size w2).alloc (Nat.le_refl _) (.cells #[.int .u8 1, .int .u8 0, .int .u32 1, .int .u64 0, .int .u32 0, .slice A2 l.length c2] 51))
        have hb3 := HB.out.trans ((hb2.mono hs).alloc (by omega) (.cells #[.int .u8 1, .int .u8 0, .int .u32 1, .int .u64 0, .int .u32 0, .slice A2 l.length c2] 51))
        have hFIN : GrownPost w n l (.returned (.slice (some ⟨w2.heap.size, 0, none⟩) 1 1)) (w2.alloc (.cells #[.int .u8 1, .int .u8 0, .int .u32 1, .int .u64 0, .int .u32 0, .slice A2 l.length c2] 51)) := by
          refine ⟨_, rfl, ?_, hb3⟩
          rw [HF0.out.1]
          refine ⟨fun _ => A2, fun _ => c2, ?_, fun q hq => ?_⟩
          · have e : ((List.range 1).flatMap fun q => pgl (Sp.grownF n l q) A2 c2) = [.int .u8 1, .int .u8 0, .int .u32 1, .int .u64 0, .int .u32 0, .slice A2 l.length c2] := by
              show pgl (Sp.grownF n l 0) A2 c2 ++ [] = _
              rw [HF0.out.2]
              simp
            rw [e]; exact hO
          · obtain rfl : q = 0 := by omega
            rw [HF0.out.2]
            exact hR3.mono (fun b hb => ⟨by have := hb.1; omega, fun e => by
              simp only [Value.ownBlock, Option.some.injEq] at e
              have := hb.2; omega⟩)
        have HFIN := Lib.hid hFIN
        clear hFIN hO hR3 hb3 HLF hR2 hb2
        go_wp2_with fail
        go_ret
        exact HFIN.out
      · have hgm : 2 ≤ m := by omega
        obtain ⟨gu, cu', e⟩ := own_form' O2 (by omega)
        injection e with e1 e2 e3
        subst e1 e3
        have hEN : ((List.range m).flatMap fun i => enCs ⟨Sp.sep n l i, 3 + i⟩) = (Sp.ens n l).flatMap enCs := by
          unfold Sp.ens
          rw [← HM.out, List.flatMap_map]
        have hel : (Sp.ens n l).length = m := by rw [Sp.ens_length, ← HM.out]
        have hEA : EnsAt (fun b => w.heap.size ≤ b) wr (some ⟨gu, 0, none⟩) (Sp.ens n l) := by
          have := own_reads O2
          rw [hEN] at this
          show Reads _ _ _ _ (Sp.ens n l).length _
          rw [hel]; exact this
        have hin := law18_inner 1 1 (cap := cu) hEA (fun r hr => by
          obtain ⟨i, hi, rfl⟩ := List.getElem_of_mem hr
          rw [Sp.ens_at hi]
          exact ⟨Sp.sep_len hn1 HOK.out i, by show 1 ≤ 3 + i; omega, by show 3 + i ≤ 1024; omega⟩) (by omega)
        rw [hel] at hin
        have HIN := Lib.hid hin
        have HF0 := Lib.hid (show Sp.grownN n l = m + 1 ∧ (∀ q, q < m → Sp.grownF n l q = Sp.lvPg n l q) ∧ Sp.grownF n l m = ⟨2, 1, 1, 0, 0, (Sp.ens n l).map Sp.En.bytes⟩ by
          unfold Sp.grownN Sp.grownF Sp.rootPg
          rw [← HM.out]
          refine ⟨by rw [if_neg (by omega)], fun q hq => by rw [if_neg (by omega), if_pos hq], by rw [if_neg (by omega), if_neg (by omega), if_neg (by omega)]⟩)
        have d2 : decide ((m : Int) < 2) = false := by rw [decide_eq_false_iff_not]; omega
        have HO1 := Lib.hid O1
        have HOR := Lib.hid OR
        have HEL := Lib.hid hel
        clear O1 OR O2 O3 hb hRr HG hEN hEA hin hel
        go_wp2_with fail
        refine HIN.out.mono ?_
        rintro e1 w2 ⟨A2, c2, rfl, hA2, hR2, hb2⟩
        have hs2 := hb2.size
        have hO2 := row_keep' HO1.out (fun b hb => hb2.block b (HO1.out.lt b hb).2)
        have HO2 := Lib.hid hO2
        have hel := HEL.out
        have hR2' := Reads.in_ hR2
        have HR2 := Lib.hid hR2'
        have HBK := Lib.hid fun b (h : b < wr.heap.size) => hb2.block b h
        have HB2 := Lib.hid (HB.out.trans (hb2.mono hs))
        have hws : w.heap.size ≤ w2.heap.size := by omega
        have hAl := fun b (h : (Value.slice Ao m co).ownBlock = some b) => (HO1.out.lt b h).2
        clear HIN hO2 hR2 hR2' hb2
        go_wp2_with (at_builtin; refine wpList_append_own2 _ rfl _ _ 25 rfl w.heap.size 51 ip pgZero 6 48 Tryz.underlying25 hip hp0 hp1 hp2 rfl (by decide) _ m _ rfl (HO2.out.alloc _) ⟨w2.heap.size, 0, none⟩ 1 1 [.int .u8 2, .int .u8 1, .int .u32 1, .int .u64 0, .int .u32 0, .slice A2 m c2] rfl rfl (blk_news (cs := [.int .u8 2, .int .u8 1, .int .u32 1, .int .u64 0, .int .u32 0, .slice A2 m c2]) (Blk.new w2 51 [.int .u8 2, .int .u8 1, .int .u32 1, .int .u64 0, .int .u32 0, .slice A2 m c2].toArray)) (fun x hx => by simp at hx; rcases hx with rfl | rfl | rfl | rfl | rfl | rfl <;> rfl) (by unfold maxLen; omega) (by omega) (by simp; omega) ?_; intro v2 w7 r1 r2 r3)
        go_ret
        have s7 : w2.heap.size + 1 ≤ w7.heap.size := by have := r2.size; simpa using this
        have far : ∀ b, b < w2.heap.size → (Value.slice Ao m co).ownBlock ≠ some b → w7.heap[b]? = w2.heap[b]? := fun b h1 h2 => (r2.block b (by simp; omega) (fun e => h2 e.symm)).trans (Below.heap_alloc w2 _ b h1)
        have r3' : ∀ k, v2.ownBlock = some k → (Value.slice Ao m co).ownBlock = some k ∨ w2.heap.size < k := fun k h => (r3 k h).imp id (fun h => by
          have h : (w2.alloc _).heap.size ≤ k := h
          rw [World.size_alloc] at h; omega)
        refine ⟨v2, rfl, ?_, ((HB2.out.alloc hws _).grown r2 (by simp; omega) (fun r e => row_base HO2.out e))⟩
        rw [HF0.out.1]
        refine PgOwn.more (A := A') (c := c') (A1 := A2) (c1 := c2) (fun q hq => ?_) ?_ ?_
        · rw [HF0.out.2.1 q hq]
          refine ((Reads.in_ (HOR.out q hq)).keep (w' := w7) (by omega) (fun b hb => ?_)).mono (fun b hb => ⟨hb.1.1, fun e => ?_⟩)
          · rw [far b (by have := hb.2; omega) (fun e => hb.1.2.1 e)]
            exact HBK.out b hb.2
          · rcases r3' b e with h | h
            · exact hb.1.2.1 h
            · have := hb.2; omega
        · rw [HF0.out.2.2]
          refine ((HR2.out).keep (w' := w7) (by omega) (fun b hb => far b hb.2 (fun e => by have := hAl b e; have := hb.1; omega))).mono (fun b hb => ⟨by have := hb.1; omega, fun e => ?_⟩)
          rcases r3' b e with h | h
          · have := hAl b h; have := hb.1; omega
          · have := hb.2; omega
        · rw [HF0.out.2.2]
          have e : ((List.range m).flatMap fun q => pgl (Sp.grownF n l q) (A' q) (c' q)) = (List.range m).flatMap fun q => pgl (Sp.lvPg n l q) (A' q) (c' q) := flatMap_range_eq (fun q hq => by rw [HF0.out.2.1 q hq])
          rw [e]
          have e2 : pgl ⟨2, 1, 1, 0, 0, (Sp.ens n l).map Sp.En.bytes⟩ A2 c2 = [.int .u8 2, .int .u8 1, .int .u32 1, .int .u64 0, .int .u32 0, .slice A2 m c2] := by
            show [Value.int .u8 2, .int .u8 1, .int .u32 1, .int .u64 0, .int .u32 0, .slice A2 ((Sp.ens n l).map Sp.En.bytes).length c2] = _
            rw [List.length_map, HEL.out]
          rw [e2]; exact r1
end Go.Proofs.YtafopojibpifoaaGreat

/- The walk of package tree: Get. -/
namespace Go.Proofs.YtafopojibpifoaaGreat
open Go.RowKit Go.Conc

abbrev rwZc : Array Value := #[str [], .bool false, .int .u64 0, .int .u32 0, .int .u16 0, str [], .int .i64 0]
abbrev rwA (r : Sp.Rw) : Array Value := #[str r.key, .bool r.mark, .int .u64 r.tx, .int .u32 r.page, .int .u16 r.slot, str r.value, .int .i64 r.pad]
theorem row_cells {W : World} {g : Nat} {t : TypeId} {c0 c1 c2 c3 c4 c5 c6 : Value} (h : Blk W g t #[c0, c1, c2, c3, c4, c5, c6]) : W.cell? ⟨g, 0, none⟩ = some c0 ∧ W.cell? ⟨g, 1, none⟩ = some c1 ∧ W.cell? ⟨g, 2, none⟩ = some c2 ∧ W.cell? ⟨g, 3, none⟩ = some c3 ∧ W.cell? ⟨g, 4, none⟩ = some c4 ∧ W.cell? ⟨g, 5, none⟩ = some c5 ∧ W.cell? ⟨g, 6, none⟩ = some c6 :=
  ⟨h.cell 0, h.cell 1, h.cell 2, h.cell 3, h.cell 4, h.cell 5, h.cell 6⟩
/-- The row of a key, or a zero one. -/
def Sp.getR (rs : List Sp.Rw) (k : Sp.Bs) : Sp.Rw := if Sp.isK (Sp.keysR rs) k then (rs[Sp.findK (Sp.keysR rs) k]?).getD Sp.Rw.zero else Sp.Rw.zero

set_option maxRecDepth 100000 in
set_option maxHeartbeats 4000000 in
theorem tree_get {ly : Ly} {pg : Nat → Sp.Pg} {kn : Nat → Option Sp.Kn} (hkn : Known ly pg kn) {K : Foot} {w : World} {gt root ga gd gl gp n : Nat} (h : TrAt ly pg K w gt root ga gd gl gp n) (k : Sp.Bs) {steps : List (Nat × Nat)} {leaf : Nat} {rs : List Sp.Rw} (hw : Sp.wayF kn k 8 root = some (steps, leaf)) (hl : kn leaf = some (.leaf rs)) :
    Calls Tryz.prog 12 #[ptr gt, str k] w fun e w' => e = .returned (.tuple #[rwV (Sp.getR rs k), .bool (Sp.isK (Sp.keysR rs) k), .int .i64 0]) ∧ TrAt ly pg K w' gt root ga gd gl gp n ∧ Kept K w w' := by
  have HLT := Lib.hid h.lt
  have hKa := h.ac.k
  have hKt := h.k
  obtain ⟨hq1, hqT, hokx⟩ := hkn leaf _ hl
  have hmay := (h.ok leaf hq1 hqT).2.1
  have hN := known_leaf hokx
  have hb1 := (Below.refl w.heap.size w).alloc (Nat.le_refl _) (.cells rwZc 43)
  have hB1 := Blk.new w 43 rwZc
  have h1 := h.more (K' := fun b => K b ∨ b = w.heap.size) hb1 (fun b hb => hb.imp id (fun e => by have e : b = w.heap.size := e; simp [e])) (.inl hKa) (.inl hKt)
  have HW := Lib.hid (tree_way hkn h1 k hw)
  have hk1 : Kept K w (w.alloc (.cells rwZc 43)) := Kept.of_below hb1 h.lt
  have HOKX := Lib.hid hokx
  have HN := Lib.hid hN
  have HMAY := Lib.hid hmay
  have hroom := hmay.2.2.2.2
  clear hkn h h1 hw hl hokx hN hmay
  go_enter Tryz.func12, Tryz.ntmps12
  go_wp2_with fail
  generalize hw1 : World.alloc w _ = w1 at hb1 hB1 HW hk1 ⊢
  clear hw1
  refine HW.out.mono ?_
  rintro e w2 ⟨v, A, c, rfl, _, hA, hR, hT2, hk2⟩
  have hB2 := hB1.kept hk2 (.inr rfl)
  have hb3 := (Below.refl w2.heap.size w2).alloc (Nat.le_refl _) (.cells (pgCs (pg leaf) A c) 51)
  have hB8 := Blk.new w2 51 (pgCs (pg leaf) A c)
  have hR3 := Reads.below hR hb3
  have hF := Lib.hid (node_find (c := c) HN.out HMAY.out hR3 k)
  have hB3 := hB2.below hb3 hB2.lt
  have hT3 := hT2.below hb3
  have hk3 := (hk1.trans (hk2.mono (fun b hb => .inl hb))).trans (Kept.of_below hb3 (fun b hb => hT2.lt b (.inl (.inl hb))))
  clear hk1 hk2 hT2 hR hB2 hA hb1 hB1 HW
  go_wp2_with fail
  generalize hw3 : World.alloc w2 _ = w3 at hb3 hB8 hR3 hF hB3 hT3 hk3 ⊢
  clear hw3
  refine hF.out.mono ?_
  rintro e w4 ⟨rfl, hb4⟩
  have hR4 := Reads.below hR3 hb4
  have hB4 := hB3.below hb4 hB3.lt
  have hT4 := hT3.below hb4
  have hk4 := hk3.trans (Kept.of_below hb4 (fun b hb => hT3.lt b (.inl (.inl hb))))
  obtain ⟨c0, c1, c2, c3, c4, c5⟩ := page_cells (hB8.below hb4 hB8.lt)
  have hg4 : w.heap.size < w4.heap.size := hB4.lt
  clear hR3 hB3 hT3 hk3 hb4 hb3 hB8 hF
  cases hik : Sp.isK (Sp.keysR rs) k with
  | false =>
    have hG : Sp.getR rs k = Sp.Rw.zero := by unfold Sp.getR; rw [hik]; rfl
    have HG := Lib.hid hG
    have HIK := Lib.hid hik
    clear hG hik hR4 c0 c1 c2 c3 c4 c5
    have hTf := (Turns.refl (only w.heap.size) w4).setRow (.inl rfl) (rwA Sp.Rw.zero)
    have hBf := hB4.setRow (rwA Sp.Rw.zero)
    go_wp2_with (refine wpList_store_part rfl _ _ _ rfl w.heap.size 0 (rwA Sp.Rw.zero) rfl rfl _ _ hB4 row_size (by show 0 + 7 ≤ 7; omega) (row_one [] [] _ _ _ _ _) ?_)
    change bodyPost _ _ _ _ _ (w4.setRow w.heap.size (rwA Sp.Rw.zero))
    generalize hw5 : World.setRow w4 _ _ = w5 at hTf hBf ⊢
    obtain ⟨z0, z1, z2, z3, z4, z5, z6⟩ := row_cells hBf
    have hT5 : TrAt ly pg K w5 gt root ga gd gl gp n := hT4.go hTf (fun b hb => .inl ⟨.inl (.inr hb), fun e => by have hb : b = w.heap.size := hb; have := HLT.out ga hKa; omega, fun e => by have hb : b = w.heap.size := hb; have := HLT.out gt hKt; omega⟩) (fun b hb => .inl (.inl (.inl hb))) hKa hKt
    have hk5 : Kept K w w5 := hk4.trans (Kept.of_turns hTf (fun b hb => ⟨by have := HLT.out b hb; omega, fun e => by have e : b = w.heap.size := e; have := HLT.out b hb; omega⟩))
    clear hw5 hTf hBf hB4 hT4 hk4
    exact bodyPost_ret (v := .tuple #[rwV Sp.Rw.zero, .bool false, .int .i64 0]) (by rw [results_ctt rfl]; go_simp) rfl ⟨by rw [HG.out, HIK.out], hT5, hk5⟩
  | true =>
    obtain ⟨hlt, hek⟩ := (Sp.isK_iff HOKX.out.2 (k := k)).1 hik
    have hlr : Sp.findK (Sp.keysR rs) k < rs.length := by simpa [Sp.keysR] using hlt
    obtain ⟨r, hr⟩ : ∃ r, rs[Sp.findK (Sp.keysR rs) k]? = some r := ⟨_, List.getElem?_eq_getElem hlr⟩
    have hG : Sp.getR rs k = r := by unfold Sp.getR; rw [hik, hr]; rfl
    have HG := Lib.hid hG
    have HIK := Lib.hid hik
    have hrm := HOKX.out.1.2.2.2 r (List.mem_of_getElem? hr)
    have hrw := HOKX.out.1.2.2.1
    have hlp : Sp.findK (Sp.keysR rs) k < (pg leaf).rows.length := by rw [hrw, List.length_map]; exact hlr
    obtain ⟨b, o, hA, _, hbl, hcell⟩ := RowsAt.row hR4 hlp
    have hrow : (pg leaf).rows[Sp.findK (Sp.keysR rs) k] = r.bytes := by
      have e2 : (pg leaf).rows[Sp.findK (Sp.keysR rs) k]? = some r.bytes := by rw [hrw, List.getElem?_map, hr]; rfl
      rw [List.getElem?_eq_getElem hlp] at e2
      injection e2
    rw [hrow] at hcell
    subst hA
    have HD := Lib.hid fun (W : World) => row_decodeP repZ r hrm.1 hrm.2 W
    generalize Sp.findK (Sp.keysR rs) k = at_ at *
    clear hlt hek hik hG hrm hrow hr hR4 hlr hrw
    go_wp2_with fail
    refine (HD.out _).mono ?_
    rintro e w5 ⟨rfl, hb5⟩
    have hb6 := (hb5.alloc hb5.size (.cells (rwA r) 43))
    have hB6 := hB4.below hb6 hB4.lt
    have hT6 := hT4.below hb6
    have hk6 := hk4.trans (Kept.of_below hb6 (fun b hb => hT4.lt b (.inl (.inl hb))))
    have hB12 := Blk.new w5 43 (rwA r)
    obtain ⟨n0, n1, n2, n3, n4, n5, n6⟩ := row_cells hB12
    have hTf := (Turns.refl (only w.heap.size) (w5.alloc (.cells (rwA r) 43))).setRow (.inl rfl) (rwA r)
    have hBf := hB6.setRow (rwA r)
    clear HD hB4 hT4 hk4 hb5 c0 c1 c2 c3 c4 c5 hcell
    go_wp2_with (refine wpList_store_part rfl _ _ _ rfl w.heap.size 0 (rwA r) rfl rfl _ _ hB6 row_size (by show 0 + 7 ≤ 7; omega) (row_one _ _ _ _ _ _ _) ?_)
    change bodyPost _ _ _ _ _ ((w5.alloc (.cells (rwA r) 43)).setRow w.heap.size (rwA r))
    generalize hw6 : World.alloc w5 _ = w6 at hB6 hb6 hT6 hk6 hTf hBf ⊢
    have hs6 := hb6.size
    generalize hw7 : World.setRow w6 _ _ = w7 at hTf hBf ⊢
    obtain ⟨z0, z1, z2, z3, z4, z5, z6⟩ := row_cells hBf
    have hT7 : TrAt ly pg K w7 gt root ga gd gl gp n := hT6.go hTf (fun b hb => .inl ⟨.inl (.inr hb), fun e => by have hb : b = w.heap.size := hb; have := HLT.out ga hKa; omega, fun e => by have hb : b = w.heap.size := hb; have := HLT.out gt hKt; omega⟩) (fun b hb => .inl (.inl (.inl hb))) hKa hKt
    have hk7 : Kept K w w7 := hk6.trans (Kept.of_turns hTf (fun b hb => ⟨by have := HLT.out b hb; omega, fun e => by have e : b = w.heap.size := e; have := HLT.out b hb; omega⟩))
    clear hw6 hw7 hTf hBf hB6 hT6 hk6 hB12 n0 n1 n2 n3 n4 n5 n6
    exact bodyPost_ret (v := .tuple #[rwV r, .bool true, .int .i64 0]) (by rw [results_ctt rfl]; go_simp) rfl ⟨by rw [HG.out, HIK.out], hT7, hk7⟩
end Go.Proofs.YtafopojibpifoaaGreat

/- What the walk of tree.Check has in memory: what was met, in boxes. -/
namespace Go.Proofs.YtafopojibpifoaaGreat
open Go.RowKit Go.Conc

/-- The boxes of what the closure has caught: the map that says what was seen, the tree, the pages, whether none was met yet, which leaf comes next, how many rows, the closure itself; the map. -/
structure Bx where
  s : Nat
  t : Nat
  p : Nat
  f : Nat
  n : Nat
  r : Nat
  w : Nat
  m : Nat
def Bx.has (B : Bx) (b : Nat) : Prop := b = B.s ∨ b = B.t ∨ b = B.p ∨ b = B.f ∨ b = B.n ∨ b = B.r ∨ b = B.w
def Bx.fp (B : Bx) (v : Value) : Foot := fun b => B.has b ∨ b = B.m ∨ v.ownBlock = some b
abbrev Bx.fn (B : Bx) : Value := .func (.func 26) #[] #[ptr B.s, ptr B.t, ptr B.p, ptr B.f, ptr B.n, ptr B.r, ptr B.w]
structure WkC (B : Bx) (gt base : Nat) (v : Value) (s : Sp.WSt) (w : World) : Prop where
  xs : Blk w B.s 82 #[.map (some B.m)]
  xt : Blk w B.t 29 #[ptr gt]
  xp : Blk w B.p 34 #[v]
  xf : Blk w B.f 4 #[.bool s.first]
  xn : Blk w B.n 33 #[.int .u32 s.next]
  xr : Blk w B.r 3 #[.int .i64 s.rows]
  xw : Blk w B.w 83 #[B.fn]
  xm : USet Tryz.prog 33 4 w B.m s.seen.length s.seen
  xg : w.ownsRow base 33 1 v s.pages.length (s.pages.map u32v)
  lo : ∀ b, B.has b ∨ b = B.m → b < base
section
variable {B : Bx} {gt base : Nat} {v : Value} {s : Sp.WSt} {w w' : World}
theorem USet.keep {P : Program} {k e : TypeId} {b n : Nat} {l : List Nat} (h : USet P k e w b n l) (hk : w'.heap[b]? = w.heap[b]?) : USet P k e w' b n l := by
  obtain ⟨es, clock, h1, rest⟩ := h
  exact ⟨es, clock, hk.trans h1, rest⟩
theorem WkC.keep (h : WkC B gt base v s w) (hk : ∀ b, B.fp v b → w'.heap[b]? = w.heap[b]?) : WkC B gt base v s w' :=
  ⟨h.xs.keep (hk _ (.inl (.inl rfl))), h.xt.keep (hk _ (.inl (.inr (.inl rfl)))), h.xp.keep (hk _ (.inl (.inr (.inr (.inl rfl))))), h.xf.keep (hk _ (.inl (.inr (.inr (.inr (.inl rfl)))))), h.xn.keep (hk _ (.inl (.inr (.inr (.inr (.inr (.inl rfl))))))), h.xr.keep (hk _ (.inl (.inr (.inr (.inr (.inr (.inr (.inl rfl)))))))),
    h.xw.keep (hk _ (.inl (.inr (.inr (.inr (.inr (.inr (.inr rfl)))))))), h.xm.keep (hk _ (.inr (.inl rfl))), row_keep' h.xg (fun b hb => hk b (.inr (.inr hb))), h.lo⟩
theorem WkC.lt (h : WkC B gt base v s w) {b : Nat} (hb : B.fp v b) : b < w.heap.size := by
  rcases hb with (rfl | rfl | rfl | rfl | rfl | rfl | rfl) | rfl | hb
  · exact h.xs.lt
  · exact h.xt.lt
  · exact h.xp.lt
  · exact h.xf.lt
  · exact h.xn.lt
  · exact h.xr.lt
  · exact h.xw.lt
  · exact h.xm.lt
  · exact (h.xg.lt b hb).2
/-- No box is the map, none is a row. -/
theorem WkC.map_ne (h : WkC B gt base v s w) {b : Nat} {t : TypeId} {cs : Array Value} (hb : Blk w b t cs) : b ≠ B.m := fun e => by
  obtain ⟨es, clock, h1, _⟩ := h.xm
  subst e
  unfold Blk at hb
  rw [hb] at h1; cases h1
theorem WkC.row_ne (h : WkC B gt base v s w) {b : Nat} (hb : B.has b ∨ b = B.m) : v.ownBlock ≠ some b := fun e => by
  have := (h.xg.lt b e).1
  have := h.lo b hb
  omega
end

/-- The walk's memory, beside what is kept (K). -/
structure WkIn (ly : Ly) (pg : Nat → Sp.Pg) (K : Foot) (gt root ga gd gl gp n : Nat) (B : Bx) (base : Nat) (v : Value) (s : Sp.WSt) (w : World) : Prop where
  c : WkC B gt base v s w
  tr : TrAt ly pg (fun b => K b ∨ B.fp v b) w gt root ga gd gl gp n
  sep : ∀ b, K b → ¬ B.fp v b
  ka : K ga
  kt : K gt
  pl : s.pages.length ≤ s.seen.length
  sl : s.seen.length ≤ 1000
  rl : s.rows ≤ 200 * s.seen.length
  bl : base ≤ w.heap.size
section
variable {ly : Ly} {pg : Nat → Sp.Pg} {K K' R : Foot} {gt root ga gd gl gp n : Nat} {B : Bx} {base : Nat} {v : Value} {s : Sp.WSt} {w w' : World}
theorem WkIn.kl (h : WkIn ly pg K gt root ga gd gl gp n B base v s w) : ∀ b, K b → b < w.heap.size := fun b hb => h.tr.lt b (.inl hb)
theorem WkIn.add (h : WkIn ly pg K gt root ga gd gl gp n B base v s w) (hb : Below w.heap.size w w') (hK : ∀ b, K' b → K b ∨ (w.heap.size ≤ b ∧ b < w'.heap.size)) (hka : K' ga) (hkt : K' gt) : WkIn ly pg K' gt root ga gd gl gp n B base v s w' :=
  ⟨h.c.keep (fun b hf => hb.block b (h.c.lt hf)), h.tr.more hb (fun b hk => by
    rcases hk with hk | hk
    · exact (hK b hk).imp .inl id
    · exact .inl (.inr hk)) (.inl hka) (.inl hkt), fun b hk hf => by
    rcases hK b hk with hk | hk
    · exact h.sep b hk hf
    · have := h.c.lt hf; omega, hka, hkt, h.pl, h.sl, h.rl, Nat.le_trans h.bl hb.size⟩
theorem WkIn.below (h : WkIn ly pg K gt root ga gd gl gp n B base v s w) (hb : Below w.heap.size w w') : WkIn ly pg K gt root ga gd gl gp n B base v s w' := h.add hb (fun _ h => .inl h) h.ka h.kt
theorem WkIn.less (h : WkIn ly pg K gt root ga gd gl gp n B base v s w) (hk : ∀ b, K' b → K b) (hka : K' ga) (hkt : K' gt) : WkIn ly pg K' gt root ga gd gl gp n B base v s w :=
  ⟨h.c, h.tr.less (fun b hb => hb.imp (hk b) id) (.inl hka) (.inl hkt), fun b hb => h.sep b (hk b hb), hka, hkt, h.pl, h.sl, h.rl, h.bl⟩
/-- A page was brought meanwhile; its rows are kept. -/
theorem WkIn.paged (h : WkIn ly pg K gt root ga gd gl gp n B base v s w) (hT : TrAt ly pg (fun b => (K b ∨ B.fp v b) ∨ R b) w' gt root ga gd gl gp n) (hk : Kept (fun b => K b ∨ B.fp v b) w w') (hR : ∀ b, R b → w.heap.size ≤ b) : WkIn ly pg (fun b => K b ∨ R b) gt root ga gd gl gp n B base v s w' :=
  ⟨h.c.keep (fun b hf => hk.block b (.inr hf)), hT.less (fun b hb => by
    rcases hb with (hb | hb) | hb
    · exact .inl (.inl hb)
    · exact .inr hb
    · exact .inl (.inr hb)) (.inl (.inl h.ka)) (.inl (.inl h.kt)), fun b hb hf => by
    rcases hb with hb | hb
    · exact h.sep b hb hf
    · have := h.c.lt hf; have := hR b hb; omega, .inl h.ka, .inl h.kt, h.pl, h.sl, h.rl, Nat.le_trans h.bl hk.size⟩
/-- Some of the boxes are turned, by whom the state is told anew. -/
theorem WkIn.turned {T F' : Foot} {v' : Value} {s' : Sp.WSt} (h : WkIn ly pg K gt root ga gd gl gp n B base v s w) (ht : Turns T F' w w') (hT : ∀ b, T b → B.fp v b ∨ w.heap.size ≤ b) (hc : WkC B gt base v' s' w') (hv : ∀ b, v'.ownBlock = some b → v.ownBlock = some b ∨ w.heap.size ≤ b) (pl : s'.pages.length ≤ s'.seen.length) (sl : s'.seen.length ≤ 1000) (rl : s'.rows ≤ 200 * s'.seen.length) :
    WkIn ly pg K gt root ga gd gl gp n B base v' s' w' ∧ Kept K w w' := by
  have hkl := h.kl
  have hfp : ∀ b, B.fp v' b → B.fp v b ∨ w.heap.size ≤ b := fun b hb => by
    rcases hb with hb | hb | hb
    · exact .inl (.inl hb)
    · exact .inl (.inr (.inl hb))
    · exact (hv b hb).imp (fun h => .inr (.inr h)) id
  refine ⟨⟨hc, h.tr.go ht (fun b hb => ?_) (fun b hb => ?_) (.inl h.ka) (.inl h.kt), fun b hb hf => ?_, h.ka, h.kt, pl, sl, rl, Nat.le_trans h.bl ht.size⟩, Kept.of_turns ht (fun b hb => ⟨hkl b hb, fun hTb => ?_⟩)⟩
  · rcases hT b hb with hf | hf
    · exact .inl ⟨.inr hf, fun e => h.sep ga h.ka (e ▸ hf), fun e => h.sep gt h.kt (e ▸ hf)⟩
    · exact .inr hf
  · rcases hb with hb | hb
    · exact .inl (.inl hb)
    · rcases hfp b hb with hf | hf
      · exact .inl (.inr hf)
      · exact .inr ⟨hf, hc.lt hb⟩
  · rcases hfp b hf with hf | hf
    · exact h.sep b hb hf
    · have := hkl b hb; omega
  · rcases hT b hTb with hf | hf
    · exact h.sep b hb hf
    · have := hkl b hb; omega
end

/-- The boxes of the pages and of how many rows are there. -/
def WkLeft (B : Bx) (w : World) : Prop := (∃ u, Blk w B.p 34 #[u]) ∧ ∃ x : Int, Blk w B.r 3 #[.int .i64 x]
theorem WkC.left_ {B : Bx} {gt base : Nat} {v : Value} {s : Sp.WSt} {w : World} (h : WkC B gt base v s w) : WkLeft B w := ⟨⟨_, h.xp⟩, _, h.xr⟩
/-- What the walk from a page down leaves. -/
def WkPost (ly : Ly) (pg : Nat → Sp.Pg) (K : Foot) (gt root ga gd gl gp n : Nat) (B : Bx) (base : Nat) (w : World) (r : Nat × Sp.WSt) (e : Ending) (w' : World) : Prop :=
  e = .returned (.int .i64 r.1) ∧ Kept K w w' ∧ WkLeft B w' ∧ (r.1 = 0 → ∃ v, WkIn ly pg K gt root ga gd gl gp n B base v r.2 w')
abbrev wkArgs (B : Bx) (id : Nat) (level : Int) (lo hi : Sp.Bs) : Array Value := #[u32v id, .int .i64 level, str lo, str hi, ptr B.s, ptr B.t, ptr B.p, ptr B.f, ptr B.n, ptr B.r, ptr B.w]
/-- The contract of the walk, with so much fuel. -/
def WkSpec (ly : Ly) (pg : Nat → Sp.Pg) (kn : Nat → Option Sp.Kn) (gt root ga gd gl gp n : Nat) (B : Bx) (base f : Nat) : Prop :=
  ∀ (K : Foot) (v : Value) (s : Sp.WSt) (id : Nat) (level : Int) (lo hi : Sp.Bs) (r : Nat × Sp.WSt) (w : World), -1 ≤ level → level ≤ 300 → Sp.walkF pg kn f s id level lo hi = some r → WkIn ly pg K gt root ga gd gl gp n B base v s w →
    Calls Tryz.prog 26 (wkArgs B id level lo hi) w (WkPost ly pg K gt root ga gd gl gp n B base w r)
end Go.Proofs.YtafopojibpifoaaGreat
