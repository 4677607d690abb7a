/- Package rec: Same with a record that has no tables; May; Encode. -/
import Derived.Test.YtclpmkinjjhncaaGreatMQE
import Derived.LoopN
import Derived.Test.YtclpmkinjjhncaaGreatMQC
import Derived.Test.YtclpmkinjjhncaaGreatMQD
import Derived.BigQuiet
import Derived.Deep.CutBlock
import Derived.Test.YtclpmkinjjhncaaGreatMQA
import Derived.Test.YtclpmkinjjhncaaGreatMQB

namespace Go.Proofs.YtclpmkinjjhncaaGreat
open Go.RowKit

set_option maxRecDepth 100000 in
theorem equal_dirty {w : World} {D : Option Addr} {nd cd : Nat} (hn : nd ≤ 100000000) :
    Calls Tryz.prog 244 #[.slice D nd cd, .slice none 0 0] w fun e w' => e = .returned (.bool (decide (nd = 0))) ∧ w' = w := by
  cases nd with
  | zero =>
    go_enter Tryz.func244, Tryz.ntmps244
    go_wp2_with fail
    refine wp_loop_rounds 1 ?_
    rw [rounds_succ]
    go_wp2_with fail
    go_ret
    exact ⟨rfl, rfl⟩
  | succ n =>
    have e1 : (((n + 1 : Nat) : Int) != 0) = true := by simp; omega
    have e2 : (((n : Int) + 1) != 0) = true := by simp; omega
    go_enter Tryz.func244, Tryz.ntmps244
    go_wp2_with fail
    go_ret
    exact ⟨rfl, rfl⟩
set_option maxRecDepth 100000 in
theorem equal_active {w : World} {D : Option Addr} {nd cd : Nat} (hn : nd ≤ 100000000) :
    Calls Tryz.prog 245 #[.slice D nd cd, .slice none 0 0] w fun e w' => e = .returned (.bool (decide (nd = 0))) ∧ w' = w := by
  cases nd with
  | zero =>
    go_enter Tryz.func245, Tryz.ntmps245
    go_wp2_with fail
    refine wp_loop_rounds 1 ?_
    rw [rounds_succ]
    go_wp2_with fail
    go_ret
    exact ⟨rfl, rfl⟩
  | succ n =>
    have e1 : (((n + 1 : Nat) : Int) != 0) = true := by simp; omega
    have e2 : (((n : Int) + 1) != 0) = true := by simp; omega
    go_enter Tryz.func245, Tryz.ntmps245
    go_wp2_with fail
    go_ret
    exact ⟨rfl, rfl⟩
/-- The cells of tables. -/
def tbCs (D T : Option Addr) (nd cd nt ct ttx tnum : Nat) : Array Value := #[.slice D nd cd, .slice T nt ct, .int .u64 ttx, .int .u64 tnum]
theorem tables_size : (Tryz.prog.info? 46).map (·.size) = some 4 := by kernel_rfl
theorem rec_ext {a b : Sp.Rec} (h1 : a.kind = b.kind) (h2 : a.tx = b.tx) (h3 : a.prev = b.prev) (h4 : a.rp = b.rp) (h5 : a.rs = b.rs) (h6 : a.next = b.next) (h7 : a.number = b.number) (h8 : a.body = b.body) (h9 : a.ttx = b.ttx) (h10 : a.tnum = b.tnum) (h11 : a.nd = b.nd) (h12 : a.nt = b.nt) : a = b := by
  cases a; cases b; simp_all
def tbZ : Array Value := tbCs none none 0 0 0 0 0 0
set_option maxRecDepth 100000 in
theorem rec_tables {W : World} {g : Nat} {r : Sp.Rec} {D T : Option Addr} {cd ct : Nat} (h : Blk W g 48 (recCs r D T cd ct)) :
    (loadVar 46 ⟨g, 8, none⟩).run Tryz.prog W = .ok (.agg (tbCs D T r.nd cd r.nt ct r.ttx r.tnum)) W := by
  refine run_loadVar_part (P := Tryz.prog) W ⟨g, 8, none⟩ 46 (tbCs D T r.nd cd r.nt ct r.ttx r.tnum).toList _ (fun j v hv => ?_) Tryz.underlying46 rfl tables_size
  rw [addr_add, h.cell (8 + j)]
  have hj : j < 4 := by
    have := (List.getElem?_eq_some_iff.1 hv).1
    simpa [tbCs] using this
  obtain rfl | rfl | rfl | rfl : j = 0 ∨ j = 1 ∨ j = 2 ∨ j = 3 := by omega
  all_goals exact hv
theorem tables_store {W : World} {g : Nat} {c0 c1 c2 c3 : Value} {D T : Option Addr} {nd cd nt ct ttx tnum : Nat} (h : Blk W g 46 #[c0, c1, c2, c3]) :
    (storeVar 46 ⟨g, 0, none⟩ (.agg (tbCs D T nd cd nt ct ttx tnum))).run Tryz.prog W = .ok () (W.setRow g (tbCs D T nd cd nt ct ttx tnum)) :=
  run_storeVar_part W g 0 _ _ _ _ h tables_size (by show 0 + 4 ≤ 4; omega) (by simp [tbCs, Value.oneCell'])
set_option maxRecDepth 100000 in
set_option maxHeartbeats 8000000 in
theorem rec_same {w : World} {a b : Sp.Rec} {D T : Option Addr} {cd ct : Nat} (hk : a.kind = b.kind) (ht : a.tx = b.tx) (hp : a.prev = b.prev) (hbn : b.nd = 0) (hbt : b.nt = 0) (hnd : a.nd ≤ 100000000) (hnt : a.nt ≤ 100000000) :
    Calls Tryz.prog 177 #[recV a D T cd ct, recV b none none 0 0] w fun e w' => e = .returned (.bool (decide (a = b))) ∧ Below w.heap.size w w' := by
  have hA1 := (Blk.new w 48 (recCs a D T cd ct)).alloc (.cells (recCs b none none 0 0) 48)
  have hB1 := Blk.new (w.alloc (.cells (recCs a D T cd ct) 48)) 48 (recCs b none none 0 0)
  have hsz : (w.alloc (.cells (recCs a D T cd ct) 48)).heap.size = w.heap.size + 1 := by simp
  have hb1 := ((Below.refl w.heap.size w).alloc (Nat.le_refl _) (.cells (recCs a D T cd ct) 48)).alloc (by simp) (.cells (recCs b none none 0 0) 48)
  rw [hsz] at hB1
  clear hsz
  go_enter Tryz.func177, Tryz.ntmps177
  go_upto_region 1 with fail
  change Code.wp _ _ _ _ ((w.alloc (.cells (recCs a D T cd ct) 48)).alloc (.cells (recCs b none none 0 0) 48))
  generalize (w.alloc (.cells (recCs a D T cd ct) 48)).alloc (.cells (recCs b none none 0 0) 48) = w2 at hA1 hB1 hb1 ⊢
  go_cut [5, 6] from 5 to 10 (fun v5 v6 wx => ∃ g5 g6, v5 = ptr g5 ∧ v6 = ptr g6 ∧ Blk wx g5 46 (tbCs D T a.nd cd a.nt ct a.ttx a.tnum) ∧ Blk wx g6 46 (tbCs none none b.nd 0 b.nt 0 b.ttx b.tnum) ∧ Below w2.heap.size w2 wx)
  case first =>
    have hS := Lib.hid (show Blk w2.drew w.heap.size 48 (recCs a D T cd ct) ∧ Blk w2.drew (w.heap.size + 1) 48 (recCs b none none 0 0) from ⟨hA1.drew, hB1.drew⟩)
    have hal := hA1.lt
    have hbl := hB1.lt
    clear hA1 hB1
    refine R_begin (fun W => Blk W w.heap.size 48 (recCs a D T cd ct) ∧ Blk W (w.heap.size + 1) 48 (recCs b none none 0 0)) (fun _ => false) rfl ?_
    refine R_tk 0 7 hS.out ?_
    simp only [List.setIfInBounds_toArray, List.set_cons_zero, List.set_cons_succ]
    refine R_take 1 8 (v := .agg (tbCs D T a.nd cd a.nt ct a.ttx a.tnum)) rfl rfl (by rfl) (by kernel_rfl) (fun _ _ _ h => h) hS.out (fun W hSw => run_op_load _ _ ⟨w.heap.size, 8, none⟩ rfl rfl (rec_tables hSw.1)) ?_
    simp only [List.setIfInBounds_toArray, List.set_cons_zero, List.set_cons_succ]
    refine R_tk 2 9 hS.out ?_
    simp only [List.setIfInBounds_toArray, List.set_cons_zero, List.set_cons_succ]
    refine R_take 3 10 (v := .agg (tbCs none none b.nd 0 b.nt 0 b.ttx b.tnum)) rfl rfl (by rfl) (by kernel_rfl) (fun _ _ _ h => h) hS.out (fun W hSw => run_op_load _ _ ⟨w.heap.size + 1, 8, none⟩ rfl rfl (rec_tables hSw.2)) ?_
    simp only [List.setIfInBounds_toArray, List.set_cons_zero, List.set_cons_succ]
    have hS3 := Lib.hid (show Blk (w2.drew.alloc (.cells tbZ 46)) w.heap.size 48 (recCs a D T cd ct) ∧ Blk (w2.drew.alloc (.cells tbZ 46)) (w.heap.size + 1) 48 (recCs b none none 0 0) from ⟨hS.out.1.alloc _, hS.out.2.alloc _⟩)
    have hS4 := Lib.hid (show Blk ((w2.drew.alloc (.cells tbZ 46)).alloc (.cells tbZ 46)) w.heap.size 48 (recCs a D T cd ct) ∧ Blk ((w2.drew.alloc (.cells tbZ 46)).alloc (.cells tbZ 46)) (w.heap.size + 1) 48 (recCs b none none 0 0) from ⟨hS3.out.1.alloc _, hS3.out.2.alloc _⟩)
    have hz5 := (Blk.new w2.drew 46 tbZ).alloc (.cells tbZ 46)
    have hz6 := Blk.new (w2.drew.alloc (.cells tbZ 46)) 46 tbZ
    have hne : w2.drew.heap.size ≠ (w2.drew.alloc (.cells tbZ 46)).heap.size := by simp
    have hb4 : Below w2.heap.size w2 ((w2.drew.alloc (.cells tbZ 46)).alloc (.cells tbZ 46)) := ((Below.refl w2.heap.size w2).drew.alloc (Nat.le_refl _) _).alloc (by simp) _
    have hg5 : w2.heap.size ≤ w2.drew.heap.size := Nat.le_refl _
    have hg6 : w2.heap.size ≤ (w2.drew.alloc (.cells tbZ 46)).heap.size := by simp
    refine R_all (rs := [4, 5]) (by kernel_rfl) (by simp) (fun i hi => ?_)
    simp only [List.mem_cons, List.not_mem_nil, or_false] at hi
    rcases hi with rfl | rfl
    refine op_run 5 (v := ptr w2.drew.heap.size) (w' := w2.drew.alloc (.cells tbZ 46)) rfl rfl (by rfl) (by go_simp; rfl) ⟨fun _ => hS3.out, ?_⟩
    simp only [List.setIfInBounds_toArray, List.set_cons_zero, List.set_cons_succ]
    refine R_run 5 6 (v := ptr (w2.drew.alloc (.cells tbZ 46)).heap.size) (w' := (w2.drew.alloc (.cells tbZ 46)).alloc (.cells tbZ 46)) rfl rfl (by rfl) (by kernel_rfl) (by go_simp; rfl) (fun _ => hS4.out) ?_
    simp only [List.setIfInBounds_toArray, List.set_cons_zero, List.set_cons_succ]
    generalize ((w2.drew.alloc (.cells tbZ 46)).alloc (.cells tbZ 46)) = w4 at hS4 hz5 hz6 hb4 ⊢
    generalize (w2.drew.alloc (.cells tbZ 46)).heap.size = g6 at hz6 hne hg6 ⊢
    generalize w2.drew.heap.size = g5 at hz5 hne hg5 ⊢
    rotate_left
    refine op_run 6 (v := ptr w2.drew.heap.size) (w' := w2.drew.alloc (.cells tbZ 46)) rfl rfl (by rfl) (by go_simp; rfl) ⟨fun _ => hS3.out, ?_⟩
    simp only [List.setIfInBounds_toArray, List.set_cons_zero, List.set_cons_succ]
    refine R_run 4 5 (v := ptr (w2.drew.alloc (.cells tbZ 46)).heap.size) (w' := (w2.drew.alloc (.cells tbZ 46)).alloc (.cells tbZ 46)) rfl rfl (by rfl) (by kernel_rfl) (by go_simp; rfl) (fun _ => hS4.out) ?_
    simp only [List.setIfInBounds_toArray, List.set_cons_zero, List.set_cons_succ]
    generalize ((w2.drew.alloc (.cells tbZ 46)).alloc (.cells tbZ 46)) = w4 at hS4 hz5 hz6 hb4 ⊢
    generalize (w2.drew.alloc (.cells tbZ 46)).heap.size = g5 at hz6 hne hg6 ⊢
    generalize w2.drew.heap.size = g6 at hz5 hne hg5 ⊢
    have hz7 := hz5
    replace hz5 := hz6
    replace hz6 := hz7
    clear hz7
    have hn7 := hne.symm
    replace hne := hn7
    clear hn7
    have hg7 := hg5
    replace hg5 := hg6
    replace hg6 := hg7
    clear hg7
    all_goals
      have hn05 : w.heap.size ≠ g5 := by omega
      have hn06 : w.heap.size ≠ g6 := by omega
      have hn15 : w.heap.size + 1 ≠ g5 := by omega
      have hn16 : w.heap.size + 1 ≠ g6 := by omega
      refine R_store 6 (n := .skip) (w' := w4.setRow g5 (tbCs D T a.nd cd a.nt ct a.ttx a.tnum)) rfl rfl (by rfl) (by kernel_rfl) (run_op_store _ _ _ ⟨g5, 0, none⟩ _ rfl rfl rfl (tables_store hz5)) (.inl rfl) (fun _ => ⟨hS4.out.1.keep (heap_setRow_other _ _ _ _ hn05), hS4.out.2.keep (heap_setRow_other _ _ _ _ hn15)⟩) ?_
      have hx5 := hz5.setRow (tbCs D T a.nd cd a.nt ct a.ttx a.tnum)
      have hy6 := hz6.keep (heap_setRow_other w4 g5 g6 (tbCs D T a.nd cd a.nt ct a.ttx a.tnum) (fun e => hne e.symm))
      refine R_store 7 (n := .skip) (w' := (w4.setRow g5 (tbCs D T a.nd cd a.nt ct a.ttx a.tnum)).setRow g6 (tbCs none none b.nd 0 b.nt 0 b.ttx b.tnum)) rfl rfl (by rfl) (by kernel_rfl) (run_op_store _ _ _ ⟨g6, 0, none⟩ _ rfl rfl rfl (tables_store hy6)) (.inl rfl) (fun _ => ⟨(hS4.out.1.keep (heap_setRow_other _ _ _ _ hn05)).keep (heap_setRow_other _ _ _ _ hn06), (hS4.out.2.keep (heap_setRow_other _ _ _ _ hn15)).keep (heap_setRow_other _ _ _ _ hn16)⟩) ?_
      refine R_done (by kernel_rfl) ?_ _
      rename_i J9 K9 hJ9 hK9
      refine hK9 _ _ ?_
      clear hK9
      go_meet
      case rel => exact ⟨g5, g6, rfl, rfl, hx5.keep (heap_setRow_other _ _ _ _ hne), hy6.setRow _, below_setRow (below_setRow hb4 hg5 _) hg6 _⟩
  case rest =>
  rename_i K8 hK8
  refine hK8 _ _ ?_
  clear hK8
  obtain ⟨g5, g6, rfl, rfl, h5, h6, hbx⟩ := hcut
  have hAx := hA1.below hbx hA1.lt
  have hBx := hB1.below hbx hB1.lt
  have HBX := Lib.hid (hb1.trans (hbx.mono hb1.size))
  have x0 := hAx.cell 0
  have x1 := hAx.cell 1
  have x2 := hAx.cell 2
  have x3 := hAx.cell 3
  have x4 := hAx.cell 4
  have x5 := hAx.cell 5
  have x6 := hAx.cell 6
  have x7 := hAx.cell 7
  have y0 := hBx.cell 0
  have y1 := hBx.cell 1
  have y2 := hBx.cell 2
  have y3 := hBx.cell 3
  have y4 := hBx.cell 4
  have y5 := hBx.cell 5
  have y6 := hBx.cell 6
  have y7 := hBx.cell 7
  have s0 := h5.cell 0
  have s1 := h5.cell 1
  have s2 := h5.cell 2
  have s3 := h5.cell 3
  have t0 := h6.cell 0
  have t1 := h6.cell 1
  have t2 := h6.cell 2
  have t3 := h6.cell 3
  simp only [recCs, tbCs, List.getElem?_toArray, List.getElem?_cons_succ, List.getElem?_cons_zero, hbn, hbt] at x0 x1 x2 x3 x4 x5 x6 x7 y0 y1 y2 y3 y4 y5 y6 y7 s0 s1 s2 s3 t0 t1 t2 t3
  have HED := Lib.hid (equal_dirty (w := wc) (D := D) (cd := cd) hnd)
  have HEA := Lib.hid (equal_active (w := wc) (D := T) (cd := ct) hnt)
  have qk : ((a.kind : Int) == (b.kind : Int)) = true := by simp [hk]
  have qt : ((a.tx : Int) == (b.tx : Int)) = true := by simp [ht]
  have qp : ((a.prev : Int) == (b.prev : Int)) = true := by simp [hp]
  replace hk := Lib.hid hk
  replace ht := Lib.hid ht
  replace hp := Lib.hid hp
  replace hbn := Lib.hid hbn
  replace hbt := Lib.hid hbt
  clear hAx hBx h5 h6 hbx hA1 hB1 hb1
  by_cases h0 : a.rp = b.rp
  · have q0 : ((a.rp : Int) == (b.rp : Int)) = true := by simp [h0]
    replace h0 := Lib.hid h0
    by_cases h1 : a.rs = b.rs
    · have q1 : ((a.rs : Int) == (b.rs : Int)) = true := by simp [h1]
      replace h1 := Lib.hid h1
      by_cases h2 : a.next = b.next
      · have q2 : ((a.next : Int) == (b.next : Int)) = true := by simp [h2]
        replace h2 := Lib.hid h2
        by_cases h3 : a.number = b.number
        · have q3 : ((a.number : Int) == (b.number : Int)) = true := by simp [h3]
          replace h3 := Lib.hid h3
          by_cases h4 : a.body = b.body
          · have q4 : (a.body == b.body) = true := by simp [h4]
            replace h4 := Lib.hid h4
            by_cases h5 : a.ttx = b.ttx
            · have q5 : ((a.ttx : Int) == (b.ttx : Int)) = true := by simp [h5]
              replace h5 := Lib.hid h5
              by_cases h6 : a.tnum = b.tnum
              · have q6 : ((a.tnum : Int) == (b.tnum : Int)) = true := by simp [h6]
                replace h6 := Lib.hid h6
                by_cases h7 : a.nd = b.nd
                · skip
                  replace h7 := Lib.hid h7
                  by_cases h8 : a.nt = b.nt
                  · skip
                    replace h8 := Lib.hid h8
                    go_wp2_with fail
                    refine HED.out.mono ?_
                    rintro e w3 ⟨rfl, rfl⟩
                    rw [decide_eq_true (h7.out.trans hbn.out)]
                    go_wp2_with fail
                    refine HEA.out.mono ?_
                    rintro e w3 ⟨rfl, rfl⟩
                    rw [decide_eq_true (h8.out.trans hbt.out)]
                    go_wp2_with fail
                    go_ret
                    exact ⟨by rw [decide_eq_true (rec_ext hk.out ht.out hp.out h0.out h1.out h2.out h3.out h4.out h5.out h6.out h7.out h8.out)]; rfl, HBX.out⟩
                  · skip
                    go_wp2_with fail
                    refine HED.out.mono ?_
                    rintro e w3 ⟨rfl, rfl⟩
                    rw [decide_eq_true (h7.out.trans hbn.out)]
                    go_wp2_with fail
                    refine HEA.out.mono ?_
                    rintro e w3 ⟨rfl, rfl⟩
                    rw [decide_eq_false (fun h => h8 (by rw [h, hbt.out]))]
                    go_wp2_with fail
                    go_ret
                    exact ⟨by rw [decide_eq_false (fun h => h8 (by rw [h]))]; rfl, HBX.out⟩
                · skip
                  go_wp2_with fail
                  refine HED.out.mono ?_
                  rintro e w3 ⟨rfl, rfl⟩
                  rw [decide_eq_false (fun h => h7 (by rw [h, hbn.out]))]
                  go_wp2_with fail
                  go_ret
                  exact ⟨by rw [decide_eq_false (fun h => h7 (by rw [h]))]; rfl, HBX.out⟩
              · have q6 : ((a.tnum : Int) == (b.tnum : Int)) = false := by rw [beq_eq_false_iff_ne]; omega
                go_wp2_with fail
                go_ret
                exact ⟨by rw [decide_eq_false (fun h => h6 (by rw [h]))]; rfl, HBX.out⟩
            · have q5 : ((a.ttx : Int) == (b.ttx : Int)) = false := by rw [beq_eq_false_iff_ne]; omega
              go_wp2_with fail
              go_ret
              exact ⟨by rw [decide_eq_false (fun h => h5 (by rw [h]))]; rfl, HBX.out⟩
          · have q4 : (a.body == b.body) = false := by simp [h4]
            go_wp2_with fail
            go_ret
            exact ⟨by rw [decide_eq_false (fun h => h4 (by rw [h]))]; rfl, HBX.out⟩
        · have q3 : ((a.number : Int) == (b.number : Int)) = false := by rw [beq_eq_false_iff_ne]; omega
          go_wp2_with fail
          go_ret
          exact ⟨by rw [decide_eq_false (fun h => h3 (by rw [h]))]; rfl, HBX.out⟩
      · have q2 : ((a.next : Int) == (b.next : Int)) = false := by rw [beq_eq_false_iff_ne]; omega
        go_wp2_with fail
        go_ret
        exact ⟨by rw [decide_eq_false (fun h => h2 (by rw [h]))]; rfl, HBX.out⟩
    · have q1 : ((a.rs : Int) == (b.rs : Int)) = false := by rw [beq_eq_false_iff_ne]; omega
      go_wp2_with fail
      go_ret
      exact ⟨by rw [decide_eq_false (fun h => h1 (by rw [h]))]; rfl, HBX.out⟩
  · have q0 : ((a.rp : Int) == (b.rp : Int)) = false := by rw [beq_eq_false_iff_ne]; omega
    go_wp2_with fail
    go_ret
    exact ⟨by rw [decide_eq_false (fun h => h0 (by rw [h]))]; rfl, HBX.out⟩
end Go.Proofs.YtclpmkinjjhncaaGreat

/- Package rec: May, Encode of a record that has no tables. -/
namespace Go.Proofs.YtclpmkinjjhncaaGreat
open Go.RowKit

def Sp.Rec.may (r : Sp.Rec) : Bool := r.fits && decide (r = r.has)
theorem rec_has_same (r : Sp.Rec) : r.kind = r.has.kind ∧ r.tx = r.has.tx ∧ r.prev = r.has.prev ∧ r.has.nd = 0 ∧ r.has.nt = 0 := by
  unfold Sp.Rec.has
  split
  · exact ⟨rfl, rfl, rfl, rfl, rfl⟩
  split
  · exact ⟨rfl, rfl, rfl, rfl, rfl⟩
  split
  · exact ⟨rfl, rfl, rfl, rfl, rfl⟩
  split
  · exact ⟨rfl, rfl, rfl, rfl, rfl⟩
  exact ⟨rfl, rfl, rfl, rfl, rfl⟩
set_option maxRecDepth 100000 in
set_option maxHeartbeats 4000000 in
theorem rec_may {w : World} {r : Sp.Rec} {D T : Option Addr} {cd ct : Nat} (ho : r.Ok) (h8 : r.kind ≠ 8) :
    Calls Tryz.prog 116 #[recV r D T cd ct] w fun e w' => e = .returned (.bool r.may) ∧ Below w.heap.size w w' := by
  have hB1 := Blk.new w 48 (recCs r D T cd ct)
  have hb1 := (Below.refl w.heap.size w).alloc (Nat.le_refl _) (.cells (recCs r D T cd ct) 48)
  have HL1 := Lib.hid (rec_load hB1)
  have HBY := Lib.hid (rec_bytes (w := w.alloc (.cells (recCs r D T cd ct) 48)) (D := D) (T := T) (cd := cd) (ct := ct) ho h8)
  have HB1 := Lib.hid hB1
  have HBB := Lib.hid hb1
  have H8 := Lib.hid h8
  clear hB1 hb1 h8
  go_enter Tryz.func116, Tryz.ntmps116
  go_wp2_with (first
    | ((with_reducible refine wpList_run (v := recV r D T cd ct) (w' := w.alloc (.cells (recCs r D T cd ct) 48)) 6 rfl rfl ?_ ?_); exact run_op_load _ _ ⟨w.heap.size, 0, none⟩ rfl rfl HL1.out; simp only [List.setIfInBounds_toArray, List.set_cons_zero, List.set_cons_succ]))
  refine HBY.out.mono ?_
  rintro e w2 ⟨s, rfl, -, hb2⟩
  have hB2 := HB1.out.below hb2 HB1.out.lt
  have hbw2 := HBB.out.trans (hb2.mono HBB.out.size)
  clear HL1 HBY HB1 HBB hb2
  have HM := Lib.hid (show r.may = (r.fits && decide (r = r.has)) from rfl)
  have hS := Lib.hid (show Blk w2.drew w.heap.size 48 (recCs r D T cd ct) from hB2.drew)
  have HW2 := Lib.hid hbw2
  have HB2 := Lib.hid hB2
  clear hB2 hbw2
  cases hf : r.fits
  · rw [hf, Bool.false_and] at HM
    go_wp2_with fail
    refine R_begin (fun W => Blk W w.heap.size 48 (recCs r D T cd ct)) (fun _ => false) rfl ?_
    refine R_tk 0 10 hS.out ?_
    simp only [List.setIfInBounds_toArray, List.set_cons_zero, List.set_cons_succ]
    refine R_tk 1 11 hS.out ?_
    simp only [List.setIfInBounds_toArray, List.set_cons_zero, List.set_cons_succ]
    refine R_skip 2 12 rfl rfl (by rfl) (by kernel_rfl) (fun _ _ _ h => h) hS.out ?_
    simp only [List.setIfInBounds_toArray, List.set_cons_zero, List.set_cons_succ]
    refine R_skip 3 13 rfl rfl (by rfl) (by kernel_rfl) (fun _ _ _ h => h) hS.out ?_
    simp only [List.setIfInBounds_toArray, List.set_cons_zero, List.set_cons_succ]
    refine R_skip 4 14 rfl rfl (by rfl) (by kernel_rfl) (fun _ _ _ h => h) hS.out ?_
    simp only [List.setIfInBounds_toArray, List.set_cons_zero, List.set_cons_succ]
    refine R_skip 5 15 rfl rfl (by rfl) (by kernel_rfl) (fun _ _ _ h => h) hS.out ?_
    simp only [List.setIfInBounds_toArray, List.set_cons_zero, List.set_cons_succ]
    refine R_tk 6 16 hS.out ?_
    simp only [List.setIfInBounds_toArray, List.set_cons_zero, List.set_cons_succ]
    refine R_tk 7 2 hS.out ?_
    simp only [List.setIfInBounds_toArray, List.set_cons_zero, List.set_cons_succ]
    refine R_done (by kernel_rfl) ?_ _
    rename_i K9 hK9
    refine hK9 _ _ ?_
    clear hK9
    go_wp2_with fail
    go_ret
    exact ⟨by rw [HM.out]; rfl, HW2.out.drew⟩
  · rw [hf, Bool.true_and] at HM
    have HH := Lib.hid (rec_has (w := w2.drew) (r := r) (D := D) (T := T) (cd := cd) (ct := ct) H8.out)
    go_wp2_with fail
    refine R_begin (fun W => Blk W w.heap.size 48 (recCs r D T cd ct)) (fun _ => false) rfl ?_
    refine R_tk 0 10 hS.out ?_
    simp only [List.setIfInBounds_toArray, List.set_cons_zero, List.set_cons_succ]
    refine R_tk 1 11 hS.out ?_
    simp only [List.setIfInBounds_toArray, List.set_cons_zero, List.set_cons_succ]
    refine R_take 2 12 (v := recV r D T cd ct) rfl rfl (by rfl) (by kernel_rfl) (fun _ _ _ h => h) hS.out (fun W hSw => run_op_load _ _ ⟨w.heap.size, 0, none⟩ rfl rfl (rec_load hSw)) ?_
    simp only [List.setIfInBounds_toArray, List.set_cons_zero, List.set_cons_succ]
    refine R_take 3 13 (v := recV r D T cd ct) rfl rfl (by rfl) (by kernel_rfl) (fun _ _ _ h => h) hS.out (fun W hSw => run_op_load _ _ ⟨w.heap.size, 0, none⟩ rfl rfl (rec_load hSw)) ?_
    simp only [List.setIfInBounds_toArray, List.set_cons_zero, List.set_cons_succ]
    refine R_call 4 14 (w' := w2.drew) rfl rfl (by rfl) (by kernel_rfl) ?_ HH.out ?_
    · go_simp
    rintro e w3 ⟨rfl, hb3⟩
    have hS3 := Lib.hid (show Blk w3 w.heap.size 48 (recCs r D T cd ct) from HB2.out.drew.below hb3 HB2.out.drew.lt)
    have hw3 := HW2.out.drew.trans (hb3.mono HW2.out.drew.size)
    have hsame := rec_has_same r
    have HSM := Lib.hid (rec_same (w := w3) (a := r) (b := r.has) (D := D) (T := T) (cd := cd) (ct := ct) hsame.1 hsame.2.1 hsame.2.2.1 hsame.2.2.2.1 hsame.2.2.2.2 ho.nd ho.nt)
    clear hsame
    refine ⟨_, rfl, fun _ => hS3.out, ?_⟩
    simp only [List.setIfInBounds_toArray, List.set_cons_zero, List.set_cons_succ]
    refine R_call 5 15 (w' := w3) rfl rfl (by rfl) (by kernel_rfl) ?_ HSM.out ?_
    · go_simp
    rintro e w4 ⟨rfl, hb4⟩
    have hS4 := Lib.hid (show Blk w4 w.heap.size 48 (recCs r D T cd ct) from hS3.out.below hb4 hS3.out.lt)
    have hw4 := hw3.trans (hb4.mono hw3.size)
    refine ⟨_, rfl, fun _ => hS4.out, ?_⟩
    simp only [List.setIfInBounds_toArray, List.set_cons_zero, List.set_cons_succ]
    refine R_tk 6 16 hS4.out ?_
    simp only [List.setIfInBounds_toArray, List.set_cons_zero, List.set_cons_succ]
    refine R_tk 7 2 hS4.out ?_
    simp only [List.setIfInBounds_toArray, List.set_cons_zero, List.set_cons_succ]
    refine R_done (by kernel_rfl) ?_ _
    rename_i K9 hK9
    refine hK9 _ _ ?_
    clear hK9
    go_wp2_with fail
    go_ret
    exact ⟨by rw [HM.out]; rfl, hw4⟩
/-- What Encode answers. -/
def RecAns (r : Sp.Rec) (v : Value) : Prop := (r.may = true ∧ v = .tuple #[str r.bytes, .int .i64 0]) ∨ (r.may = false ∧ v = .tuple #[str [], .int .i64 2])
set_option maxRecDepth 100000 in
set_option maxHeartbeats 4000000 in
theorem rec_encode {w : World} {r : Sp.Rec} {D T : Option Addr} {cd ct : Nat} (ho : r.Ok) (h8 : r.kind ≠ 8) :
    Calls Tryz.prog 50 #[recV r D T cd ct] w fun e w' => (∃ v, e = .returned v ∧ RecAns r v) ∧ Below w.heap.size w w' := by
  have hB1 := Blk.new w 48 (recCs r D T cd ct)
  have hb1 := (Below.refl w.heap.size w).alloc (Nat.le_refl _) (.cells (recCs r D T cd ct) 48)
  have HL1 := Lib.hid (rec_load hB1)
  have HM := Lib.hid (rec_may (w := w.alloc (.cells (recCs r D T cd ct) 48)) (D := D) (T := T) (cd := cd) (ct := ct) ho h8)
  have HB1 := Lib.hid hB1
  have HBB := Lib.hid hb1
  have H8 := Lib.hid h8
  clear hB1 hb1 h8
  go_enter Tryz.func50, Tryz.ntmps50
  go_wp2_with (first
    | ((with_reducible refine wpList_run (v := recV r D T cd ct) (w' := w.alloc (.cells (recCs r D T cd ct) 48)) 6 rfl rfl ?_ ?_); exact run_op_load _ _ ⟨w.heap.size, 0, none⟩ rfl rfl HL1.out; simp only [List.setIfInBounds_toArray, List.set_cons_zero, List.set_cons_succ]))
  refine HM.out.mono ?_
  rintro e w2 ⟨rfl, hb2⟩
  have hB2 := HB1.out.below hb2 HB1.out.lt
  have hbw2 := HBB.out.trans (hb2.mono HBB.out.size)
  clear HL1 HM HB1 HBB hb2
  cases hm : r.may
  · have HM2 := Lib.hid hm
    clear hm
    go_wp2_with fail
    go_ret2
    exact ⟨⟨_, rfl, .inr ⟨HM2.out, rfl⟩⟩, hbw2⟩
  · have HL2 := Lib.hid (rec_load hB2)
    have HBY := Lib.hid (rec_bytes (w := w2) (D := D) (T := T) (cd := cd) (ct := ct) ho H8.out)
    have hf : r.fits = true := by unfold Sp.Rec.may at hm; simp at hm; exact hm.1
    have HF := Lib.hid hf
    have HM2 := Lib.hid hm
    clear hm
    have HW := Lib.hid hbw2
    clear hf hB2 hbw2
    go_wp2_with (first
      | ((with_reducible refine wpList_run (v := recV r D T cd ct) (w' := w2) 10 rfl rfl ?_ ?_); exact run_op_load _ _ ⟨w.heap.size, 0, none⟩ rfl rfl HL2.out; simp only [List.setIfInBounds_toArray, List.set_cons_zero, List.set_cons_succ]))
    refine HBY.out.mono ?_
    rintro e w3 ⟨s, rfl, hs, hb3⟩
    obtain rfl := hs HF.out
    have hb4 := HW.out.trans (hb3.mono HW.out.size)
    go_wp2_with fail
    go_ret2
    exact ⟨⟨_, rfl, .inl ⟨HM2.out, rfl⟩⟩, hb4⟩
end Go.Proofs.YtclpmkinjjhncaaGreat

/- Package act: record, Cost. -/
namespace Go.Proofs.YtclpmkinjjhncaaGreat
open Go.RowKit

/-- What act.record answers. -/
def RcdAns (r : Sp.Rec) (l : List Sp.Op) (v : Value) : Prop :=
  (r.body ≠ [] ∧ v = .tuple #[str [], .int .i64 2]) ∨ (r.body = [] ∧ l = [] ∧ RecAns r v) ∨
    (r.body = [] ∧ l ≠ [] ∧ ((32 < l.length ∧ v = .tuple #[str [], .int .i64 5]) ∨ (l.length ≤ 32 ∧ l.all Sp.opMay = false ∧ v = .tuple #[str [], .int .i64 2]) ∨ (l.length ≤ 32 ∧ l.all Sp.opMay = true ∧ RecAns { r with body := Sp.opsBytes l } v)))
set_option maxRecDepth 100000 in
set_option maxHeartbeats 4000000 in
theorem act_record {w : World} {G : Foot} {r : Sp.Rec} {D T : Option Addr} {cd ct cl : Nat} {L : Option Addr} {l : List Sp.Op} (ho : r.Ok) (h8 : r.kind ≠ 8) (hL : OpsAt G w L l) (hok : ∀ o ∈ l, o.Ok ∧ o.Short) (hn : l.length ≤ 1000000) :
    Calls Tryz.prog 37 #[recV r D T cd ct, .slice L l.length cl] w fun e w' => (∃ v, e = .returned v ∧ RcdAns r l v) ∧ Below w.heap.size w w' := by
  have hB1 := Blk.new w 48 (recCs r D T cd ct)
  have hb1 := (Below.refl w.heap.size w).alloc (Nat.le_refl _) (.cells (recCs r D T cd ct) 48)
  have hL1 := hL.below hb1
  have H8 := Lib.hid h8
  clear h8
  go_enter Tryz.func37, Tryz.ntmps37
  go_upto_region 1 with fail
  change Code.wp _ _ _ _ (w.alloc (.cells (recCs r D T cd ct) 48))
  generalize w.alloc (.cells (recCs r D T cd ct) 48) = w1 at hB1 hb1 hL1 ⊢
  have x7 := hB1.cell 7
  have f7 := hB1.frozen 7
  simp only [recCs, List.getElem?_toArray, List.getElem?_cons_succ, List.getElem?_cons_zero] at x7
  have HB1 := Lib.hid hB1
  have HBB := Lib.hid hb1
  have HL1 := Lib.hid hL1
  clear hB1 hb1 hL1 hL
  by_cases hbd : r.body = []
  · have q1 : (r.body == ([] : Sp.Bs)) = true := by simp [hbd]
    replace hbd := Lib.hid hbd
    by_cases hl0 : l = []
    · have d1 : decide (0 < l.length) = false := by rw [hl0]; rfl
      have HL0 := Lib.hid hl0
      have HLD := Lib.hid (rec_load HB1.out)
      have HE := Lib.hid (rec_encode (w := w1) (D := D) (T := T) (cd := cd) (ct := ct) ho H8.out)
      clear hl0
      go_wp2_with (first
        | ((with_reducible refine wpList_run (v := recV r D T cd ct) (w' := w1) 24 rfl rfl ?_ ?_); exact run_op_load _ _ ⟨w.heap.size, 0, none⟩ rfl rfl HLD.out; simp only [List.setIfInBounds_toArray, List.set_cons_zero, List.set_cons_succ]))
      refine HE.out.mono ?_
      rintro e w2 ⟨⟨v, rfl, hv⟩, hb2⟩
      have hb3 := HBB.out.trans (hb2.mono HBB.out.size)
      have HV := Lib.hid hv
      rcases hv with ⟨-, rfl⟩ | ⟨-, rfl⟩
      all_goals
        go_wp2_with fail
        go_ret2
        exact ⟨⟨_, rfl, .inr (.inl ⟨hbd.out, HL0.out, HV.out⟩)⟩, hb3⟩
    · have d1 : decide (0 < l.length) = true := decide_eq_true (List.length_pos_iff.2 hl0)
      have HL0 := Lib.hid hl0
      have HE := Lib.hid (op_encode (cl := cl) HL1.out hok hn)
      have hsh : (Sp.opsBytes l).length ≤ 100000000 ∨ 32 < l.length := by
        by_cases h32 : 32 < l.length
        · exact .inr h32
        · left
          have := Sp.opsB_len (l := l) (fun o ho => (hok o ho).2)
          unfold Sp.opsBytes
          rw [List.length_append, Sp.be_length]
          omega
      have HSH := Lib.hid hsh
      clear hl0 hok hsh
      go_wp2_with fail
      refine HE.out.mono ?_
      rintro e w2 ⟨⟨v, rfl, hv⟩, hb2⟩
      have hb3 := HBB.out.trans (hb2.mono HBB.out.size)
      have hB2 := HB1.out.below hb2 HB1.out.lt
      clear x7 f7 hb2
      rcases hv with ⟨h1, rfl⟩ | ⟨h1, h2, rfl⟩ | ⟨h1, h2, rfl⟩
      · have HX := Lib.hid (show RcdAns r l (.tuple #[str [], .int .i64 5]) from .inr (.inr ⟨hbd.out, HL0.out, .inl ⟨h1, rfl⟩⟩))
        clear h1
        go_wp2_with fail
        go_ret2
        exact ⟨⟨_, rfl, HX.out⟩, hb3⟩
      · have HX := Lib.hid (show RcdAns r l (.tuple #[str [], .int .i64 2]) from .inr (.inr ⟨hbd.out, HL0.out, .inr (.inl ⟨h1, h2, rfl⟩)⟩))
        clear h1 h2
        go_wp2_with fail
        go_ret2
        exact ⟨⟨_, rfl, HX.out⟩, hb3⟩
      · have x7 := hB2.cell 7
        have f7 := hB2.frozen 7
        simp only [recCs, List.getElem?_toArray, List.getElem?_cons_succ, List.getElem?_cons_zero] at x7
        have hB3 : Blk (w2.setCell ⟨w.heap.size, 7, none⟩ (str (Sp.opsBytes l))) w.heap.size 48 (recCs { r with body := Sp.opsBytes l } D T cd ct) := hB2.set_ 7 _
        have hb4 := hb3.setCell (p := ⟨w.heap.size, 7, none⟩) (Nat.le_refl _) (str (Sp.opsBytes l))
        have ho2 : ({ r with body := Sp.opsBytes l } : Sp.Rec).Ok := ⟨ho.kind, ho.tx, ho.prev, ho.rp, ho.rs, ho.next, ho.number, HSH.out.resolve_right (by omega), ho.nd, ho.nt⟩
        have HLD := Lib.hid (rec_load hB3)
        have HEN := Lib.hid (rec_encode (w := w2.setCell ⟨w.heap.size, 7, none⟩ (str (Sp.opsBytes l))) (D := D) (T := T) (cd := cd) (ct := ct) ho2 H8.out)
        have HX := Lib.hid (show ∀ v, RecAns { r with body := Sp.opsBytes l } v → RcdAns r l v from fun v hv => .inr (.inr ⟨hbd.out, HL0.out, .inr (.inr ⟨h1, h2, hv⟩)⟩))
        clear h1 h2 hB3 hB2 hb3 ho2
        generalize Sp.opsBytes l = bs at *
        go_wp2_with (first
          | ((with_reducible refine wpList_run (v := recV { r with body := bs } D T cd ct) (w' := w2.setCell ⟨w.heap.size, 7, none⟩ (str bs)) 24 rfl rfl ?_ ?_); exact run_op_load _ _ ⟨w.heap.size, 0, none⟩ rfl rfl HLD.out; simp only [List.setIfInBounds_toArray, List.set_cons_zero, List.set_cons_succ]))
        refine HEN.out.mono ?_
        rintro e w5 ⟨⟨v, rfl, hv⟩, hb5⟩
        have hb6 := hb4.trans (hb5.mono hb4.size)
        have hx := HX.out v hv
        have HV := Lib.hid hx
        clear hx
        rcases hv with ⟨-, rfl⟩ | ⟨-, rfl⟩
        all_goals
          go_wp2_with fail
          go_ret2
          exact ⟨⟨_, rfl, HV.out⟩, hb6⟩
  · have q1 : (r.body == ([] : Sp.Bs)) = false := by simp [hbd]
    replace hbd := Lib.hid hbd
    go_wp2_with fail
    go_ret2
    exact ⟨⟨_, rfl, .inl ⟨hbd.out, rfl⟩⟩, HBB.out⟩
end Go.Proofs.YtclpmkinjjhncaaGreat

/- Package act: Cost, Log, Pool; the record, plain. -/
namespace Go.Proofs.YtclpmkinjjhncaaGreat
open Go.RowKit

/-- A record's bytes, and which error. -/
def Sp.record (r : Sp.Rec) (l : List Sp.Op) : Sp.Bs × Nat :=
  if r.body ≠ [] then ([], 2)
  else if l = [] then (if r.may then (r.bytes, 0) else ([], 2))
  else if 32 < l.length then ([], 5)
  else if l.all Sp.opMay = false then ([], 2)
  else (if ({ r with body := Sp.opsBytes l } : Sp.Rec).may then (({ r with body := Sp.opsBytes l } : Sp.Rec).bytes, 0) else ([], 2))
theorem rcd_eq {r : Sp.Rec} {l : List Sp.Op} {v : Value} (h : RcdAns r l v) : v = .tuple #[str (Sp.record r l).1, .int .i64 ((Sp.record r l).2 : Int)] := by
  unfold Sp.record
  rcases h with ⟨h1, rfl⟩ | ⟨h1, h2, h3⟩ | ⟨h1, h2, ⟨h3, rfl⟩ | ⟨h3, h4, rfl⟩ | ⟨h3, h4, h5⟩⟩
  · rw [if_pos h1]; rfl
  · rw [if_neg (by simp [h1]), if_pos h2]
    rcases h3 with ⟨h3, rfl⟩ | ⟨h3, rfl⟩
    · rw [if_pos h3]; rfl
    · rw [if_neg (by simp [h3])]; rfl
  · rw [if_neg (by simp [h1]), if_neg h2, if_pos h3]; rfl
  · rw [if_neg (by simp [h1]), if_neg h2, if_neg (by omega), if_pos h4]; rfl
  · rw [if_neg (by simp [h1]), if_neg h2, if_neg (by omega), if_neg (by simp [h4])]
    rcases h5 with ⟨h5, rfl⟩ | ⟨h5, rfl⟩
    · rw [if_pos h5]; rfl
    · rw [if_neg (by simp [h5])]; rfl
theorem Sp.Rec.bytes_len {r : Sp.Rec} (h : r.may = true) : 17 ≤ r.bytes.length ∧ r.bytes.length ≤ 3097 := by
  have hf : r.fits = true := by unfold Sp.Rec.may at h; simp at h; exact h.1
  have hh : r.head.length = 17 := by unfold Sp.Rec.head; simp
  have hb : r.bodyOk = true → r.body.length ≤ 3072 := fun h => by unfold Sp.Rec.bodyOk at h; simp at h; omega
  unfold Sp.Rec.fits at hf
  unfold Sp.Rec.bytes
  rw [Bool.and_eq_true] at hf
  obtain ⟨-, hf⟩ := hf
  by_cases h2 : r.kind = 2
  · rw [if_pos h2]
    rw [if_neg (by omega), if_pos h2, Bool.and_eq_true] at hf
    have := hb hf.1
    simp [hh]; omega
  rw [if_neg h2]
  by_cases h6 : r.kind = 6
  · rw [if_pos h6]
    rw [if_neg (by omega), if_neg h2, if_pos h6] at hf
    have := hb hf
    simp [hh]; omega
  rw [if_neg h6]
  by_cases h3 : r.kind = 3
  · rw [if_pos h3]
    rw [if_neg (by omega), if_neg h2, if_neg h6, if_pos h3] at hf
    have := hb hf
    simp [hh]; omega
  rw [if_neg h3]
  by_cases h4 : r.kind = 4
  · rw [if_pos h4]
    rw [if_neg (by omega), if_neg h2, if_neg h6, if_neg h3, if_pos h4, Bool.and_eq_true] at hf
    have := hb hf.1
    simp [hh]; omega
  rw [if_neg h4]
  omega
theorem Sp.record_len {r : Sp.Rec} {l : List Sp.Op} (h : (Sp.record r l).2 = 0) : 17 ≤ (Sp.record r l).1.length ∧ (Sp.record r l).1.length ≤ 3097 := by
  unfold Sp.record at h ⊢
  split at h
  · exact absurd h (by decide)
  rename_i h1
  rw [if_neg h1]
  split at h
  · rename_i h2
    rw [if_pos h2]
    split at h
    · rename_i h3
      rw [if_pos h3]
      exact Sp.Rec.bytes_len h3
    · exact absurd h (by decide)
  rename_i h2
  rw [if_neg h2]
  split at h
  · exact absurd h (by decide)
  rename_i h3
  rw [if_neg h3]
  split at h
  · exact absurd h (by decide)
  rename_i h4
  rw [if_neg h4]
  split at h
  · rename_i h5
    rw [if_pos h5]
    exact Sp.Rec.bytes_len h5
  · exact absurd h (by decide)
/-- What Cost answers. -/
def Sp.cost (r : Sp.Rec) (l : List Sp.Op) : Nat × Nat := if (Sp.record r l).2 = 0 then (14 + (Sp.record r l).1.length, 0) else (0, (Sp.record r l).2)
set_option maxRecDepth 100000 in
set_option maxHeartbeats 4000000 in
theorem act_cost {w : World} {ga gp gl : Nat} {G : Foot} {r : Sp.Rec} {D T : Option Addr} {cd ct cl : Nat} {L : Option Addr} {l : List Sp.Op} (hA : Blk w ga 111 #[ptr gp, ptr gl]) (ho : r.Ok) (h8 : r.kind ≠ 8) (hL : OpsAt G w L l) (hok : ∀ o ∈ l, o.Ok ∧ o.Short) (hn : l.length ≤ 1000000) :
    Calls Tryz.prog 31 #[ptr ga, recV r D T cd ct, .slice L l.length cl] w fun e w' => e = .returned (.tuple #[.int .i64 (Sp.cost r l).1, .int .i64 (Sp.cost r l).2]) ∧ Below w.heap.size w w' := by
  have hb1 := (Below.refl w.heap.size w).alloc (Nat.le_refl _) (.cells (recCs r D T cd ct) 48)
  have HN := Lib.hid (act_none (hA.alloc (.cells (recCs r D T cd ct) 48)))
  have HLD := Lib.hid (rec_load (Blk.new w 48 (recCs r D T cd ct)))
  have HR := Lib.hid (act_record (w := w.alloc (.cells (recCs r D T cd ct) 48)) (D := D) (T := T) (cd := cd) (ct := ct) (cl := cl) ho h8 (hL.below hb1) hok hn)
  have HB := Lib.hid hb1
  clear hb1 hL hok ho h8 hA
  go_enter Tryz.func31, Tryz.ntmps31
  go_wp2_with fail
  refine HN.out.mono ?_
  rintro e w1 ⟨rfl, rfl⟩
  go_wp2_with (first
    | ((with_reducible refine wpList_run (v := recV r D T cd ct) (w' := w.alloc (.cells (recCs r D T cd ct) 48)) 13 rfl rfl ?_ ?_); exact run_op_load _ _ ⟨w.heap.size, 0, none⟩ rfl rfl HLD.out; simp only [List.setIfInBounds_toArray, List.set_cons_zero, List.set_cons_succ]))
  refine HR.out.mono ?_
  rintro e w2 ⟨⟨v, rfl, hv⟩, hb2⟩
  obtain rfl := rcd_eq hv
  have hb3 := HB.out.trans (hb2.mono HB.out.size)
  have HC := Lib.hid (show Sp.cost r l = if (Sp.record r l).2 = 0 then (14 + (Sp.record r l).1.length, 0) else (0, (Sp.record r l).2) from rfl)
  have hlen := Sp.record_len (r := r) (l := l)
  generalize hq : Sp.record r l = q at *
  obtain ⟨s, er⟩ := q
  clear hq hv hb2 HR HLD HN
  dsimp only at *
  by_cases he : er = 0
  · subst he
    have h17 := hlen rfl
    have HZ := Lib.hid (frame_size s.length w2 (by omega))
    rw [if_pos ⟨by omega, by omega⟩] at HZ
    rw [if_pos rfl] at HC
    clear hlen
    go_wp2_with fail
    refine HZ.out.mono ?_
    rintro e w4 ⟨rfl, rfl⟩
    go_wp2_with fail
    go_ret2
    exact ⟨by rw [HC.out]; rfl, hb3⟩
  · have q1 : ((er : Int) != 0) = true := by simp; omega
    rw [if_neg he] at HC
    clear hlen he
    go_wp2_with fail
    go_ret2
    exact ⟨by rw [HC.out]; rfl, hb3⟩
theorem act_log {w : World} {ga gp gl : Nat} (hA : Blk w ga 111 #[ptr gp, ptr gl]) : Calls Tryz.prog 33 #[ptr ga] w fun e w' => e = .returned (ptr gl) ∧ w' = w := by
  have c1 := hA.cell 1
  simp only [List.getElem?_toArray, List.getElem?_cons_succ, List.getElem?_cons_zero] at c1
  go_enter Tryz.func33, Tryz.ntmps33
  go_wp2_with fail
  go_ret
  exact ⟨rfl, rfl⟩
theorem act_pool {w : World} {ga gp gl : Nat} (hA : Blk w ga 111 #[ptr gp, ptr gl]) : Calls Tryz.prog 34 #[ptr ga] w fun e w' => e = .returned (ptr gp) ∧ w' = w := by
  have c0 := hA.cell 0
  simp only [List.getElem?_toArray, List.getElem?_cons_zero] at c0
  go_enter Tryz.func34, Tryz.ntmps34
  go_wp2_with fail
  go_ret
  exact ⟨rfl, rfl⟩
end Go.Proofs.YtclpmkinjjhncaaGreat

/- Package op: Pages of a list of ops on pages that differ. -/
namespace Go.Proofs.YtclpmkinjjhncaaGreat
open Go.RowKit

set_option maxRecDepth 100000 in
set_option maxHeartbeats 4000000 in
/-- slices.Compact of a row whose neighbours differ. -/
theorem compact_row {w : World} {g cap : Nat} {cs : Array Value} {l : List Nat} (hb : Blk w g 25 cs) (hl : l.length ≤ 1000000) (hc : ∀ j, j < l.length → cs[j]? = some (u32v l[j]!)) (hd : ∀ j, 0 < j → j < l.length → l[j]! ≠ l[j - 1]!) :
    Calls Tryz.prog 102 #[.slice (some ⟨g, 0, none⟩) l.length cap] w fun e w' => e = .returned (.slice (some ⟨g, 0, none⟩) l.length cap) ∧ ∃ n, w' = w.drewN n := by
  have HB := Lib.hid hb
  have HC := Lib.hid hc
  have HD := Lib.hid hd
  clear hb hc hd
  by_cases h2 : l.length < 2
  · have d1 : decide ((l.length : Int) < 2) = true := by simp; omega
    go_enter Tryz.func102, Tryz.ntmps102
    go_wp2_with fail
    go_ret
    exact ⟨rfl, 0, rfl⟩
  · have d1 : decide ((l.length : Int) < 2) = false := by simp; omega
    go_enter Tryz.func102, Tryz.ntmps102
    go_wp2_with fail
    go_loopw [3] (fun v3 wr => ∃ i : Nat, 1 ≤ i ∧ i ≤ l.length ∧ v3 = .int .i64 i ∧ ∃ n, wr = w.drewN n) (fun v3 _ => l.length - (intOf v3).toNat)
    case atStart => exact ⟨1, by omega, by omega, rfl, 0, rfl⟩
    case round =>
      obtain ⟨i, h1, hi, rfl, n, rfl⟩ := hrel
      by_cases hlt : i < l.length
      · obtain ⟨k, rfl⟩ : ∃ k, i = k + 1 := ⟨i - 1, by omega⟩
        have c1 : w.cell? ⟨g, k + 1, none⟩ = some (u32v l[k + 1]!) := (HB.out.cell (k + 1)).trans (HC.out _ hlt)
        have c2 : w.cell? ⟨g, k, none⟩ = some (u32v l[k]!) := (HB.out.cell k).trans (HC.out _ (by omega))
        have hne := HD.out (k + 1) (by omega) hlt
        rw [Nat.add_sub_cancel] at hne
        have q1 : ((l[k + 1]! : Int) == (l[k]! : Int)) = false := by rw [beq_eq_false_iff_ne]; omega
        generalize l[k + 1]! = x at *
        generalize l[k]! = y at *
        have e1 : ((k + 1 : Nat) : Int) - 1 = (k : Int) := by omega
        go_wp2_with fail
        go_quiet (fail)
        go_wp2_with fail
        go_roundw
        case rel => exact ⟨k + 1 + 1, by omega, hlt, by go_num, n + nq, rfl⟩
        case measure => simp [intOf]; omega
      · obtain rfl : i = l.length := by omega
        go_wp2_with fail
        go_ret
        exact ⟨rfl, n, rfl⟩
theorem u32_infoP : (Tryz.prog.info? 25).map (fun i => (i.zero, i.size, i.bytes)) = some (some (.int .u32 0), 1, 4) := by kernel_rfl
def pgsU (l : List Sp.Op) : List Value := l.map fun o => u32v o.page
set_option maxRecDepth 100000 in
set_option maxHeartbeats 4000000 in
/-- Pages of ops on up to twelve pages that all differ. -/
theorem op_pages {w : World} {G : Foot} {L : Option Addr} {cl : Nat} {l : List Sp.Op} {ps : List Nat} (hL : OpsAt G w L l) (h0 : 0 < l.length) (hn : l.length ≤ 12) (hs : Sp.sorted (l.map (·.page)) = ps) (hpl : ps.length = l.length) (hd : ∀ j, 0 < j → j < ps.length → ps[j]! ≠ ps[j - 1]!) :
    Calls Tryz.prog 38 #[.slice L l.length cl] w fun e w' => ∃ g cap cs, e = .returned (.slice (some ⟨g, 0, none⟩) ps.length cap) ∧ w.heap.size ≤ g ∧ Blk w' g 25 cs ∧ (∀ j, j < ps.length → cs[j]? = some (u32v ps[j]!)) ∧ Below w.heap.size w w' := by
  obtain ⟨iu, hiu, hz0, hz1, hz2⟩ := info_parts u32_infoP
  replace hiu := Lib.hid hiu
  replace hz0 := Lib.hid hz0
  replace hz1 := Lib.hid hz1
  replace hz2 := Lib.hid hz2
  have HL := Lib.hid hL
  have HS := Lib.hid hs
  have HD := Lib.hid hd
  have HPL := Lib.hid hpl
  clear hL hs hd hpl
  go_enter Tryz.func38, Tryz.ntmps38
  go_wp2_with fail
  go_loopw [2, 7] (fun v2 v7 wr => ∃ i : Nat, i ≤ l.length ∧ v7 = .int .i64 i ∧ wr.ownsRow w.heap.size 25 1 v2 i (pgsU (l.take i)) ∧ Below w.heap.size w wr) (fun _ v7 _ => l.length - (intOf v7).toNat)
  case atStart => exact ⟨0, by omega, rfl, World.ownsRow_nil _ _ _ _, Below.refl _ _⟩
  case round =>
    obtain ⟨i, hi, rfl, hO, hbr⟩ := hrel
    by_cases hlt : i < l.length
    · rcases HL.out with h0 | ⟨b, o, rfl, hG, hbl, hop⟩
      · rw [h0] at hlt; exact absurd hlt (by simp)
      obtain ⟨A, c, hA, hR, hc⟩ := hop i hlt
      have e1 : pgsU (l.take (i + 1)) = pgsU (l.take i) ++ [u32v l[i].page] := by unfold pgsU; rw [List.take_succ_eq_append_getElem hlt, List.map_append]; rfl
      generalize l[i] = x at *
      have hcl : ∀ (k : Nat) (u : Value), (opCs x A c).toList[k]? = some u → wr.cell? ((⟨b, o + i * 9, none⟩ : Addr).add k) = some u := fun k u hu => by
        rw [addr_add]
        exact (hbr.cell (p := ⟨b, _, none⟩) hbl).trans (hc k u (by simpa using hu))
      have HCL := Lib.hid hcl
      have hz : Blk (wr.alloc (.cells (opZs 0 0) 28)) wr.heap.size 28 (opZs 0 0) := Blk.new _ _ _
      have HST := Lib.hid (op_store (o := x) (A := A) (c := c) hz)
      have hX := hz.setRow (opCs x A c)
      have hrw : Below wr.heap.size wr ((wr.alloc (.cells (opZs 0 0) 28)).setRow wr.heap.size (opCs x A c)) := below_setRow ((Below.refl _ _).alloc (Nat.le_refl _) _) (Nat.le_refl _) _
      have hb2 := hbr.trans (hrw.mono hbr.size)
      have hO2 := own_keep hO (fun k hk => hrw.block k (hO.lt k hk).2)
      have HX := Lib.hid hX
      have HB2 := Lib.hid hb2
      have HO2 := Lib.hid hO2
      clear hcl hz hX hrw hb2 hO2 hO hop hR hc
      go_upto_region 4 with (first
        | refine wpList_load_part rfl _ _ rfl ⟨b, o + i * 9, none⟩ rfl (opCs x A c).toList _ HCL.out Tryz.underlying28 rfl op_size ?_
        | ((with_reducible refine wpList_skip (w' := (wr.alloc (.cells (opZs 0 0) 28)).setRow wr.heap.size (opCs x A c)) rfl rfl ?_ ?_); exact run_op_store _ _ _ ⟨wr.heap.size, 0, none⟩ (opV x A c) rfl rfl rfl HST.out))
      clear HST HCL
      generalize (wr.alloc (.cells (opZs 0 0) 28)).setRow wr.heap.size (opCs x A c) = w2 at HX HB2 HO2 ⊢
      have x1 := HX.out.cell 1
      simp only [opCs, List.getElem?_toArray, List.getElem?_cons_succ, List.getElem?_cons_zero] at x1
      have E1 := Lib.hid e1
      clear e1
      go_wp2_with (at_builtin; refine wpList_app1 rfl _ _ 84 rfl w.heap.size 25 iu _ 4 Tryz.underlying84 hiu.out hz0.out hz1.out hz2.out rfl _ _ _ rfl HO2.out (u32v x.page) rfl rfl (by unfold maxLen; omega) (by omega) HB2.out.size ?_)
      intro v' w8 hr8 hg8 _
      have hb8 := HB2.out.grown hg8 HB2.out.size (fun k e => row_base HO2.out e)
      have HR8 := Lib.hid hr8
      clear hr8 hg8
      go_wp2_with fail
      go_roundw
      case rel => exact ⟨i + 1, hlt, by go_num, by rw [E1.out]; exact HR8.out, hb8⟩
      case measure => simp [intOf]; omega
    · obtain rfl : i = l.length := by omega
      rw [List.take_length] at hO
      obtain ⟨hl9, ⟨h1, h2⟩ | ⟨g, cap, cur, h1, hg, hh, hnc, hc, hsz, ht⟩⟩ := hO
      · omega
      · subst h1
        have hget : ∀ j, j < (l.map (·.page)).length → cur[j]? = some (u32v (l.map (·.page))[j]!) := fun j hj => by
          rw [List.length_map] at hj
          have e := congrArg (fun q => q[j]?) ht
          simp only [Nat.mul_one, pgsU] at e
          rw [List.getElem?_take_of_lt hj, List.getElem?_map, List.getElem?_eq_getElem hj] at e
          rw [getElem!_pos (l.map (·.page)) j (by simpa using hj), List.getElem_map]
          simpa using e
        have HSR := Lib.hid (sort_row (w := wr) (cap := cap) hh (by rw [List.length_map]; exact hn) hget)
        rw [List.length_map, HS.out] at HSR
        have HBR := Lib.hid hbr
        have hlt1 : l.length ≤ 1000000 := by omega
        clear hh hget ht hbr hl9 hc hnc hsz
        go_wp2_with fail
        refine HSR.out.mono ?_
        rintro e w3 ⟨rfl, cs', hb', -, hc', hgr⟩
        have hb3 := HBR.out.grown hgr HBR.out.size (fun k e => by injection e with e; omega)
        have HCO := Lib.hid (compact_row (cap := cap) hb' (by rw [HPL.out]; exact hlt1) (fun j hj => hc' j (by rw [← HPL.out]; exact hj)) HD.out)
        rw [HPL.out] at HCO
        have hcx : ∀ j, j < ps.length → cs'[j]? = some (u32v ps[j]!) := fun j hj => hc' j (by rw [← HPL.out]; exact hj)
        have HCX := Lib.hid hcx
        have HB3 := Lib.hid hb3
        have HBB := Lib.hid hb'
        clear HSR HBR hb' hc' hgr hb3 hcx
        go_wp2_with fail
        refine HCO.out.mono ?_
        rintro e w4 ⟨rfl, m, rfl⟩
        go_wp2_with fail
        go_ret
        exact ⟨g, cap, cs', by rw [HPL.out]; rfl, hg, HBB.out.drewN m, HCX.out, below_drewN' HB3.out m⟩
end Go.Proofs.YtclpmkinjjhncaaGreat

/- page.May, of rows of any length that a program may hand in. -/
namespace Go.Proofs.YtclpmkinjjhncaaGreat
open Go.RowKit

set_option maxRecDepth 100000 in
set_option maxHeartbeats 4000000 in
theorem page_mayT {w : World} {G : Foot} {p : Sp.Pg} {A : Option Addr} {c : Nat} (hR : RowsAt G w A p.rows) (hn : p.rows.length ≤ 1000000000) (ht : Sp.total p.rows ≤ 1000000000000000000) :
    Calls Tryz.prog 111 #[pgV p A c] w fun e w' => e = .returned (.bool (mayB p)) ∧ Below w.heap.size w w' := by
  have key : (decide ((p.kind : Int) ≤ 5) = false ∧ mayB p = false) ∨ (decide ((p.kind : Int) ≤ 5) = true ∧ decide (1 ≤ (p.id : Int)) = false ∧ mayB p = false) ∨
      (decide ((p.kind : Int) ≤ 5) = true ∧ decide (1 ≤ (p.id : Int)) = true ∧ decide ((p.id : Int) ≤ 1024) = false ∧ mayB p = false) ∨
      (decide ((p.kind : Int) ≤ 5) = true ∧ decide (1 ≤ (p.id : Int)) = true ∧ decide ((p.id : Int) ≤ 1024) = true ∧ decide ((p.next : Int) ≤ 1024) = false ∧ mayB p = false) ∨
      (decide ((p.kind : Int) ≤ 5) = true ∧ decide (1 ≤ (p.id : Int)) = true ∧ decide ((p.id : Int) ≤ 1024) = true ∧ decide ((p.next : Int) ≤ 1024) = true ∧ decide ((Sp.total p.rows : Int) ≤ (484 : Int) - 4 * p.rows.length) = false ∧ mayB p = false) ∨
      (decide ((p.kind : Int) ≤ 5) = true ∧ decide (1 ≤ (p.id : Int)) = true ∧ decide ((p.id : Int) ≤ 1024) = true ∧ decide ((p.next : Int) ≤ 1024) = true ∧ decide ((Sp.total p.rows : Int) ≤ (484 : Int) - 4 * p.rows.length) = true ∧ mayB p = true) := by
    by_cases a1 : p.kind ≤ 5
    · by_cases a2 : 1 ≤ p.id
      · by_cases a3 : p.id ≤ 1024
        · by_cases a4 : p.next ≤ 1024
          · by_cases a5 : 4 * p.rows.length + Sp.total p.rows ≤ 484
            · refine .inr (.inr (.inr (.inr (.inr ⟨?_, ?_, ?_, ?_, ?_, by simp [mayB, a1, a2, a3, a4, a5]⟩)))) <;> rw [decide_eq_true_eq] <;> omega
            · refine .inr (.inr (.inr (.inr (.inl ⟨?_, ?_, ?_, ?_, ?_, by simp [mayB, a5]⟩)))) <;> first | (rw [decide_eq_true_eq]; omega) | (rw [decide_eq_false_iff_not]; omega)
          · refine .inr (.inr (.inr (.inl ⟨?_, ?_, ?_, ?_, by simp [mayB, a4]⟩))) <;> first | (rw [decide_eq_true_eq]; omega) | (rw [decide_eq_false_iff_not]; omega)
        · refine .inr (.inr (.inl ⟨?_, ?_, ?_, by simp [mayB, a3]⟩)) <;> first | (rw [decide_eq_true_eq]; omega) | (rw [decide_eq_false_iff_not]; omega)
      · refine .inr (.inl ⟨?_, ?_, by simp [mayB, a2]⟩) <;> first | (rw [decide_eq_true_eq]; omega) | (rw [decide_eq_false_iff_not]; omega)
    · refine .inl ⟨?_, by simp [mayB, a1]⟩; rw [decide_eq_false_iff_not]; omega
  obtain ⟨kind, level, id, lsn, next, rows⟩ := p
  dsimp only at *
  have HR := Lib.hid hR
  have HM : Hid (∃ mb, mayB ⟨kind, level, id, lsn, next, rows⟩ = mb) := ⟨_, rfl⟩
  generalize mayB ⟨kind, level, id, lsn, next, rows⟩ = mb at *
  clear hR HM
  rcases key with ⟨d1, hmb⟩ | ⟨d1, d2, hmb⟩ | ⟨d1, d2, d3, hmb⟩ | ⟨d1, d2, d3, d4, hmb⟩ | ⟨d1, d2, d3, d4, d5, hmb⟩ | ⟨d1, d2, d3, d4, d5, hmb⟩
  all_goals
    subst hmb
    go_enter Tryz.func111, Tryz.ntmps111
    go_wp2_with fail
    go_loop [3, 5, 9] (fun v _ i => ∃ k : Nat, k ≤ rows.length ∧ i = .int .i64 k ∧ v = .int .i64 ((484 : Int) - 4 * k - Sp.total (rows.take k))) (fun _ _ i => rows.length - (intOf i).toNat)
    case atStart => exact ⟨0, by omega, rfl, by simp⟩
    case round =>
      obtain ⟨k, hk, rfl, rfl⟩ := hrel
      by_cases hlt : k < rows.length
      · obtain ⟨b, o, rfl, _, hb, hc⟩ := HR.out.row hlt
        have htk := Lib.hid (Sp.total_take_succ rows k hlt)
        have hle := Sp.total_take_le rows k
        have hle2 := Sp.total_take_le rows (k + 1)
        rw [htk.out] at hle2
        have hc2 := (World.cell?_alloc_lt w (.cells #[.int .u8 kind, .int .u8 level, .int .u32 id, .int .u64 lsn, .int .u32 next, .slice (some ⟨b, o, none⟩) rows.length c] 50) ⟨b, o + k, none⟩ hb).trans hc
        generalize Sp.total (rows.take k) = T at *
        generalize rows[k] = r at *
        clear hc
        go_wp2_with fail
        go_round
        case rel => exact ⟨k + 1, by omega, by go_num, by rw [htk.out]; go_num⟩
        case measure => simp [intOf]; omega
      · obtain rfl : k = rows.length := by omega
        rw [List.take_length]
        go_wp2_with fail
        go_ret
        exact ⟨rfl, (Below.refl _ w).alloc (Nat.le_refl _) _⟩

end Go.Proofs.YtclpmkinjjhncaaGreat

/- Put of a pool with its disk and its log. -/
namespace Go.Proofs.YtclpmkinjjhncaaGreat
open Go.RowKit Go.Conc

theorem pg_size : (Tryz.prog.info? 50).map (·.size) = some 6 := by kernel_rfl
theorem part_in {cs : Array Value} {o : Nat} {l : List Value} (hi : o + l.length ≤ cs.size) {j : Nat} (hj : j < l.length) : (partRow cs o l)[o + j]? = l[j]? := by
  unfold partRow
  rw [List.getElem?_toArray, List.append_assoc, List.getElem?_append_right (by simp; omega), List.getElem?_append_left (by simp; omega)]
  congr 1
  simp
  omega
theorem part_out {cs : Array Value} {o : Nat} {l : List Value} (hi : o + l.length ≤ cs.size) {k : Nat} (hk : k < o ∨ o + l.length ≤ k) : (partRow cs o l)[k]? = cs[k]? := by
  unfold partRow
  rw [List.getElem?_toArray, List.append_assoc]
  rcases hk with hk | hk
  · rw [List.getElem?_append_left (by simp; omega), List.getElem?_take, if_pos hk, Array.getElem?_toList]
  · rw [List.getElem?_append_right (by simp; omega), List.getElem?_append_right (by simp; omega), List.getElem?_drop, Array.getElem?_toList]
    congr 1
    simp
    omega
theorem part_size {cs : Array Value} {o : Nat} {l : List Value} (hi : o + l.length ≤ cs.size) : (partRow cs o l).size = cs.size := by simp [partRow]; omega

/-- More blocks, that are new. -/
theorem IsPlAt.more {F R G0 : Foot} {w : World} {gp gd gl at_ base fb cb mb s r : Nat} {v : Value} {cs : Array Value} {fl ids : List Nat} {p : Sp.Pl} (h : IsPlAt F R w gp gd gl at_ base fb cb mb v s r cs fl ids p) (hG : ∀ b, G0 b → ¬ F b ∧ b < w.heap.size) :
    IsPlAt (fun b => F b ∨ G0 b) (fun b => R b ∨ G0 b) w gp gd gl at_ base fb cb mb v s r cs fl ids p := by
  obtain ⟨f1, f2, f3, f4, f5⟩ := h.foot
  refine ⟨h.wf, h.blk, ⟨h.fr.blk, h.fr.size, fun it hit => ?_, h.fr.free⟩, h.chan, h.map, h.row, ⟨.inl f1, .inl f2, .inl f3, .inl f4, fun b hb => .inl (f5 b hb)⟩, fun b hb => ?_, fun b hb => ?_⟩
  · obtain ⟨A, c, hA, hR, hc⟩ := h.fr.item it hit
    exact ⟨A, c, hA, hR.mono (fun b hb => .inl hb), hc⟩
  · rcases hb with hb | hb
    · obtain ⟨a1, rest⟩ := h.rows b hb
      exact ⟨.inl a1, rest⟩
    · have hn := (hG b hb).1
      exact ⟨.inr hb, fun e => hn (e ▸ f1), fun e => hn (e ▸ f2), fun e => hn (e ▸ f3), fun e => hn (e ▸ f4), fun e => hn (f5 b e)⟩
  · exact hb.elim (h.lt b) (fun hb => (hG b hb).2)

namespace Sp
/-- What Put makes of a frame. -/
def It.put (x : Pg) (y : It) : It := if y.page.id = x.id then (if y.dirty then { y with page := x } else { y with page := x, dirty := true, from_ := x.lsn }) else y
theorem It.put_tame (x : Pg) : Tame (It.put x) := by
  constructor
  · intro y
    unfold It.put
    split
    · rename_i h
      split <;> exact h.symm
    · rfl
  · intro y
    unfold It.put
    split
    · split <;> rfl
    · rfl
end Sp

def PutPost (F : Foot) (w : World) (gp gd gl at_ base fb cb mb : Nat) (v : Value) (s r : Nat) (fl ids : List Nat) (p : Sp.Pl) (x : Sp.Pg) (e : Ending) (w' : World) : Prop :=
  e = .returned (.int .i64 0) ∧ ∃ (F' R' : Foot) (cs' : Array Value), IsPlAt F' R' w' gp gd gl at_ base fb cb mb v s r cs' fl ids (p.upd x.id (Sp.It.put x)) ∧ Turns F F' w w'

set_option maxRecDepth 100000 in
set_option maxHeartbeats 4000000 in
theorem pool_put {F R G : Foot} {w : World} {gp gd gl at_ base fb cb mb s r : Nat} {v : Value} {cs : Array Value} {fl ids : List Nat} {p : Sp.Pl} (h : IsPlAt F R w gp gd gl at_ base fb cb mb v s r cs fl ids p)
    {x : Sp.Pg} (hx : x.wf ∧ x.may) {A : Option Addr} {c : Nat} (hA : OkAddr A) (hR : RowsAt G w A x.rows) {it : Sp.It} (hf : p.find x.id = some it) (hp : 1 ≤ it.pins) :
    Calls Tryz.prog 44 #[ptr gp, pgV x A c] w (PutPost F w gp gd gl at_ base fb cb mb v s r fl ids p x) := by
  have hfit := hx.2.2.2.2.2
  have hid : x.id < 4294967296 := hx.1.2.2.1
  obtain ⟨hit, hide⟩ := Sp.Pl.find_mem hf
  have hba := (Below.refl w.heap.size w).alloc (Nat.le_refl _) (.cells (pgCs x A c) 50)
  have h1 := h.keep hba.size (fun b hb => hba.block b (h.lt b hb))
  have hB1 := Blk.new w 50 (pgCs x A c)
  have hR1 := Reads.below hR hba
  have HM := Lib.hid (pool_made (w := w.alloc (.cells (pgCs x A c) 50)) h1.cells.2.2.2.2.2.2.1)
  have HMA := Lib.hid (page_may (w := w.alloc (.cells (pgCs x A c) 50)) (c := c) hR1 (by omega) (by omega))
  rw [(mayB_iff x).2 hx.2] at HMA
  have HF := Lib.hid h.lt
  have hFl := h.lt
  have hH := Lib.hid h
  clear h hR
  go_enter Tryz.func44, Tryz.ntmps44
  go_wp2_with fail
  obtain ⟨w1, hw1⟩ : ∃ w1, w1 = w.alloc (.cells (pgCs x A c) 50) := ⟨_, rfl⟩
  rw [← hw1] at h1 hB1 hR1 HM HMA hba ⊢
  obtain ⟨g3, hg3⟩ : ∃ g, g = w.heap.size := ⟨_, rfl⟩
  rw [← hg3] at hB1 ⊢
  have hg3l : w.heap.size ≤ g3 := by omega
  clear hw1 hg3
  have z0 := hB1.cell 0
  have z1 := hB1.cell 1
  have z2 := hB1.cell 2
  have z3 := hB1.cell 3
  have z4 := hB1.cell 4
  have z5 := hB1.cell 5
  simp only [List.getElem?_toArray, List.getElem?_cons_succ, List.getElem?_cons_zero] at z0 z1 z2 z3 z4 z5
  refine HM.out.mono ?_
  rintro e w2 ⟨rfl, hw⟩
  subst w2
  go_wp2_with fail
  refine HMA.out.mono ?_
  rintro e w2 ⟨rfl, hb2⟩
  have hb02 := hba.trans (hb2.mono hba.size)
  have h2 := h1.keep hb2.size (fun b hb => hb2.block b (h1.lt b hb))
  have hB2 := hB1.below hb2 hB1.lt
  have hR2 := Reads.below hR1 hb2
  have hl2 := h2.look_in hid hf
  have c6 := h2.cells.2.2.2.2.2.2.1
  have z2 := hB2.cell 2
  simp only [List.getElem?_toArray, List.getElem?_cons_succ, List.getElem?_cons_zero] at z2
  have HH2 := Lib.hid h2
  clear z0 z1 z3 z4 z5 h1 hB1 hR1 HM HMA h2
  have hS := Lib.hid (show w2.drew.cell? ⟨gp, 6, none⟩ = some (.map (some mb)) ∧ w2.drew.cell? ⟨g3, 2, none⟩ = some (u32v x.id) ∧ (Instr.lookup 119 (.map (some mb)) (u32v x.id) true).run Tryz.prog w2.drew = .ok (.tuple #[.int .i64 it.idx, .bool true]) w2.drew from
    ⟨c6, z2, (HH2.out.keep (w' := w2.drew) (Nat.le_refl _) (fun _ _ => rfl)).look_in hid hf⟩)
  clear hl2 c6 z2
  go_wp2_with fail
  refine R_begin (fun W => W.cell? ⟨gp, 6, none⟩ = some (.map (some mb)) ∧ W.cell? ⟨g3, 2, none⟩ = some (u32v x.id) ∧ (Instr.lookup 119 (.map (some mb)) (u32v x.id) true).run Tryz.prog W = .ok (.tuple #[.int .i64 it.idx, .bool true]) W) (fun _ => false) rfl ?_
  refine R_tk 0 15 hS.out ?_
  refine R_tk 1 16 hS.out ?_
  refine R_tk 2 17 hS.out ?_
  refine R_tk 3 18 hS.out ?_
  simp only [List.setIfInBounds_toArray, List.set_cons_zero, List.set_cons_succ]
  refine R_tk 4 19 hS.out ?_
  refine R_tk 5 20 hS.out ?_
  simp only [List.setIfInBounds_toArray, List.set_cons_zero, List.set_cons_succ]
  refine R_tk 6 21 hS.out ?_
  simp only [List.setIfInBounds_toArray, List.set_cons_zero, List.set_cons_succ]
  refine R_tk 7 14 hS.out ?_
  simp only [List.setIfInBounds_toArray, List.set_cons_zero, List.set_cons_succ]
  refine R_tk 8 22 hS.out ?_
  simp only [List.setIfInBounds_toArray, List.set_cons_zero, List.set_cons_succ]
  refine R_tk 9 23 hS.out ?_
  simp only [List.setIfInBounds_toArray, List.set_cons_zero, List.set_cons_succ]
  refine R_tk 10 5 hS.out ?_
  simp only [List.setIfInBounds_toArray, List.set_cons_zero, List.set_cons_succ]
  refine R_tk 11 6 hS.out ?_
  simp only [List.setIfInBounds_toArray, List.set_cons_zero, List.set_cons_succ]
  refine R_done (by kernel_rfl) ?_ _
  rename_i K9 hK9
  refine hK9 _ _ ?_
  clear hK9 hS
  have h3 := HH2.out.keep (w' := w2.drew) (Nat.le_refl _) (fun _ _ => rfl)
  have hB3 := hB2.drew
  have hb03 : Below w.heap.size w w2.drew := ⟨hb02.os, hb02.tape, hb02.output, hb02.size, hb02.block⟩
  have hR3 : RowsAt G w2.drew A x.rows := Reads.below hR2 (Below.refl _ w2).drew
  obtain ⟨w3, hw3⟩ : ∃ w3, w3 = w2.drew := ⟨_, rfl⟩
  rw [← hw3] at h3 hB3 hb03 hR3 ⊢
  clear hw3 hb02 hB2 hR2 HH2 hb2 hba
  obtain ⟨c0, c1, c2, c3, c4, c5, c6, c7⟩ := h3.cells
  have cp := h3.pins hit
  have hlt9 := h3.wf.idx_lt hit
  have hn64 := h3.wf.n64
  have hcs := h3.fr.size
  have hp0 : ((it.pins : Int) == 0) = false := by simp; omega
  have hp1 : (it.pins == 0) = false := by simp; omega
  have hp2 : ¬ it.pins = 0 := by omega
  have z0 := hB3.cell 0
  have z1 := hB3.cell 1
  have z2 := hB3.cell 2
  have z3 := hB3.cell 3
  have z4 := hB3.cell 4
  have z5 := hB3.cell 5
  simp only [List.getElem?_toArray, List.getElem?_cons_succ, List.getElem?_cons_zero] at z0 z1 z2 z3 z4 z5
  have HCP := Lib.hid (pool_copied (c := c) hA hR3 (by omega))
  have H3 := Lib.hid h3
  clear c0 c1 c2 c3 c5 c6 c7 h3 hR3
  go_wp2_with fail
  refine HCP.out.mono ?_
  rintro e w4 ⟨A', c', rfl, hA', hR', hb4⟩
  have hA'A := Lib.hid hA'
  have hA'R := Lib.hid hR'
  clear hA' hR'
  have h4 := H3.out.keep hb4.size (fun b hb => hb4.block b (H3.out.lt b hb))
  have hB4 := hB3.below hb4 hB3.lt
  have hb04 := hb03.trans (hb4.mono hb03.size)
  have hFB := h4.fr.blk
  have hST := run_storeVar_part (P := Tryz.prog) w4 fb (it.idx * 9) 123 50 cs (pgCs x A' c') hFB pg_size (by rw [hcs]; show it.idx * 9 + 6 ≤ p.n * 9; omega) (by simp [pgCs, Value.oneCell'])
  obtain ⟨A0, c0, _, _, hc0⟩ := h4.fr.item it hit
  have hfit6 : it.idx * 9 + ([.int .u8 x.kind, .int .u8 x.level, .int .u32 x.id, .int .u64 x.lsn, .int .u32 x.next, .slice A' x.rows.length c'] : List Value).length ≤ cs.size := by rw [hcs]; show it.idx * 9 + 6 ≤ p.n * 9; omega
  have hB5 := hFB.setRow (partRow cs (it.idx * 9) [.int .u8 x.kind, .int .u8 x.level, .int .u32 x.id, .int .u64 x.lsn, .int .u32 x.next, .slice A' x.rows.length c'])
  have k7 := (hB5.cell (it.idx * 9 + 7)).trans ((part_out hfit6 (.inr (by show it.idx * 9 + 6 ≤ _; omega))).trans (hc0 7 (by omega)))
  have k8 := (hB5.cell (it.idx * 9 + 8)).trans ((part_out hfit6 (.inr (by show it.idx * 9 + 6 ≤ _; omega))).trans (hc0 8 (by omega)))
  have k6 := (hB5.cell (it.idx * 9 + 6)).trans ((part_out hfit6 (.inr (by show it.idx * 9 + 6 ≤ _; omega))).trans (hc0 6 (by omega)))
  simp only [frCells, List.getElem?_cons_succ, List.getElem?_cons_zero] at k6 k7 k8
  have hFfb := h4.foot.2.1
  have hg3fb : g3 ≠ fb := fun e => by have := hFl fb hFfb; omega
  have y7 := hB5.frozen (it.idx * 9 + 7)
  have y8 := hB5.frozen (it.idx * 9 + 8)
  have z3 := (hB4.keep (heap_setRow_other w4 fb g3 (partRow cs (it.idx * 9) [.int .u8 x.kind, .int .u8 x.level, .int .u32 x.id, .int .u64 x.lsn, .int .u32 x.next, .slice A' x.rows.length c']) hg3fb)).cell 3
  simp only [List.getElem?_toArray, List.getElem?_cons_succ, List.getElem?_cons_zero] at z3
  have hk5 : ∀ b, b ≠ fb → (w4.setRow fb (partRow cs (it.idx * 9) [.int .u8 x.kind, .int .u8 x.level, .int .u32 x.id, .int .u64 x.lsn, .int .u32 x.next, .slice A' x.rows.length c'])).heap[b]? = w4.heap[b]? := fun b hb => heap_setRow_other w4 fb b _ hb
  have ht5 := (Turns.of_below hb04 F).setRow (g := fb) (.inl hFfb) (partRow cs (it.idx * 9) [.int .u8 x.kind, .int .u8 x.level, .int .u32 x.id, .int .u64 x.lsn, .int .u32 x.next, .slice A' x.rows.length c'])
  have hs5 : w4.heap.size ≤ (w4.setRow fb (partRow cs (it.idx * 9) [.int .u8 x.kind, .int .u8 x.level, .int .u32 x.id, .int .u64 x.lsn, .int .u32 x.next, .slice A' x.rows.length c'])).heap.size := by simp [World.setRow]
  clear z0 z1 z2 z4 z5 HCP cp c4
  change (storeVar 50 ⟨fb, it.idx * 9, none⟩ (.agg (pgCs x A' c'))).run Tryz.prog w4 = .ok () (w4.setRow fb (partRow cs (it.idx * 9) [.int .u8 x.kind, .int .u8 x.level, .int .u32 x.id, .int .u64 x.lsn, .int .u32 x.next, .slice A' x.rows.length c'])) at hST
  generalize hW5 : w4.setRow fb (partRow cs (it.idx * 9) [.int .u8 x.kind, .int .u8 x.level, .int .u32 x.id, .int .u64 x.lsn, .int .u32 x.next, .slice A' x.rows.length c']) = w5 at *
  have hpost : Hid (∀ (cs' : Array Value) (w' : World) (it' : Sp.It), it' = Sp.It.put x it → cs'.size = cs.size → (∀ j, j < 9 → cs'[it.idx * 9 + j]? = (frCells it' A' c')[j]?) → (∀ k, (k < it.idx * 9 ∨ it.idx * 9 + 9 ≤ k) → cs'[k]? = cs[k]?) → Blk w' fb 123 cs' → (∀ b, b ≠ fb → w'.heap[b]? = w4.heap[b]?) → w4.heap.size ≤ w'.heap.size → Turns F F w w' →
      PutPost F w gp gd gl at_ base fb cb mb v s r fl ids p x (.returned (.int .i64 0)) w') := by
    intro cs' w' it' hit' hsz hcs' hrest hblk hkk hss htt
    have hG0 : ∀ b, (w3.heap.size ≤ b ∧ rowK A' x.rows.length b) → ¬ F b ∧ b < w4.heap.size := fun b hb => by
      obtain ⟨h1, h2⟩ := rowK_of hA'R.out hb.2
      exact ⟨fun e => by have := hFl b e; have := hb03.size; omega, h2⟩
    have hm := h4.more (G0 := fun b => w3.heap.size ≤ b ∧ rowK A' x.rows.length b) hG0
    have hpgx : (Sp.It.put x it).page = x := by
      unfold Sp.It.put
      rw [if_pos hide]
      split <;> rfl
    have hFw3 : ∀ b, F b → b < w3.heap.size := fun b hb => Nat.lt_of_lt_of_le (hFl b hb) hb03.size
    refine ⟨rfl, fun b => F b ∨ (w3.heap.size ≤ b ∧ rowK A' x.rows.length b), fun b => R b ∨ (w3.heap.size ≤ b ∧ rowK A' x.rows.length b), cs', ?_, ?_⟩
    · have := hm.upd (f := Sp.It.put x) (w' := w') (cs' := cs') (Sp.It.put_tame x) hit ?_ hss (fun b _ hb => hkk b hb) hblk ⟨hsz, hrest⟩ ⟨A', c', hA'A.out, ?_, ?_⟩
      · rw [hide] at this
        exact this
      · have hsm := h4.wf.small it hit
        refine ⟨by rw [hpgx]; exact hx.1, by rw [hpgx]; exact hx.2, ?_, ?_⟩
        · unfold Sp.It.put
          rw [if_pos hide]
          split <;> exact hsm.1
        · unfold Sp.It.put
          rw [if_pos hide]
          split
          · exact hsm.2
          · exact hx.1.2.2.2.1
      · rw [hpgx]
        exact ((rowK_at hA'R.out).keep hss (fun b hb => hkk b (fun e => by
          have := hFw3 fb hFfb
          have h2 : w3.heap.size ≤ b := hb.1
          omega))).mono (fun b hb => .inr hb)
      · rw [← hit']
        exact hcs'
    · exact ⟨htt.os, htt.tape, htt.output, htt.size, htt.block, fun b hb => hb.elim .inl (fun hb => .inr (Nat.le_trans hb03.size hb.1))⟩
  have hin6 : ∀ j, j < 6 → (partRow cs (it.idx * 9) [.int .u8 x.kind, .int .u8 x.level, .int .u32 x.id, .int .u64 x.lsn, .int .u32 x.next, .slice A' x.rows.length c'])[it.idx * 9 + j]? = ([.int .u8 x.kind, .int .u8 x.level, .int .u32 x.id, .int .u64 x.lsn, .int .u32 x.next, .slice A' x.rows.length c'] : List Value)[j]? := fun j hj => part_in hfit6 hj
  have hout6 : ∀ k, (k < it.idx * 9 ∨ it.idx * 9 + 6 ≤ k) → (partRow cs (it.idx * 9) [.int .u8 x.kind, .int .u8 x.level, .int .u32 x.id, .int .u64 x.lsn, .int .u32 x.next, .slice A' x.rows.length c'])[k]? = cs[k]? := fun k hk => part_out hfit6 hk
  have hsz6 := part_size hfit6
  have hc6 := hc0 6 (by omega)
  have hc7 := hc0 7 (by omega)
  have hc8 := hc0 8 (by omega)
  simp only [frCells, List.getElem?_cons_succ, List.getElem?_cons_zero] at hc6 hc7 hc8
  generalize hP6 : partRow cs (it.idx * 9) [.int .u8 x.kind, .int .u8 x.level, .int .u32 x.id, .int .u64 x.lsn, .int .u32 x.next, .slice A' x.rows.length c'] = cs6 at *
  have HIN := Lib.hid hin6
  have HOUT := Lib.hid hout6
  have HB5 := Lib.hid hB5
  have HK5 := Lib.hid hk5
  have HT5 := Lib.hid ht5
  have HS5 := Lib.hid hs5
  clear hin6 hout6 hB5 hk5 ht5 hs5 hFB hP6 hfit6 hc0 h4 hW5
  cases hd : it.dirty with
  | true =>
    rw [hd] at k7
    go_wp2_with (first | ((with_reducible refine wpList_skip (w' := w5) rfl rfl ?_ ?_); exact run_op_store _ _ _ ⟨fb, it.idx * 9, none⟩ (.agg (pgCs x A' c')) rfl rfl rfl hST))
    go_ret
    refine hpost.out cs6 w5 { it with page := x } (by unfold Sp.It.put; rw [if_pos hide, if_pos hd]) hsz6 (fun j hj => ?_) (fun k hk => HOUT.out k (by omega)) HB5.out HK5.out HS5.out HT5.out
    match j, hj with
    | 0, _ => exact HIN.out 0 (by omega)
    | 1, _ => exact HIN.out 1 (by omega)
    | 2, _ => exact HIN.out 2 (by omega)
    | 3, _ => exact HIN.out 3 (by omega)
    | 4, _ => exact HIN.out 4 (by omega)
    | 5, _ => exact HIN.out 5 (by omega)
    | 6, _ => exact (HOUT.out _ (by omega)).trans hc6
    | 7, _ => exact (HOUT.out _ (by omega)).trans hc7
    | 8, _ => exact (HOUT.out _ (by omega)).trans hc8
  | false =>
    rw [hd] at k7
    go_wp2_with (first | ((with_reducible refine wpList_skip (w' := w5) rfl rfl ?_ ?_); exact run_op_store _ _ _ ⟨fb, it.idx * 9, none⟩ (.agg (pgCs x A' c')) rfl rfl rfl hST))
    have hS := Lib.hid (show w5.drew.cell? ⟨g3, 3, none⟩ = some (.int .u64 x.lsn) from z3)
    have hd7 : w5.drew.cell? ⟨fb, it.idx * 9 + 7, none⟩ = some (.bool false) := k7
    have hd8 : w5.drew.cell? ⟨fb, it.idx * 9 + 8, none⟩ = some (.int .u64 it.from_) := k8
    have hy7 : w5.drew.frozen? ⟨fb, it.idx * 9 + 7, none⟩ = false := y7
    have hy8 : w5.drew.frozen? ⟨fb, it.idx * 9 + 8, none⟩ = false := y8
    have hBd := HB5.out.drew
    have htd := HT5.out.drew
    have hkd : ∀ b, b ≠ fb → w5.drew.heap[b]? = w4.heap[b]? := HK5.out
    have hsd : w4.heap.size ≤ w5.drew.heap.size := HS5.out
    obtain ⟨w6, hw6⟩ : ∃ w6, w6 = w5.drew := ⟨_, rfl⟩
    refine R_begin (fun W => W.cell? ⟨g3, 3, none⟩ = some (.int .u64 x.lsn)) (fun _ => false) rfl ?_
    rw [← hw6] at hS hd7 hd8 hy7 hy8 hBd htd hkd hsd ⊢
    clear hw6 k6 k7 k8 y7 y8 z3 hST HB5 HK5 HT5 HS5
    refine R_tk 0 53 hS.out ?_
    refine R_tk 1 54 hS.out ?_
    refine R_tk 2 55 hS.out ?_
    simp only [List.setIfInBounds_toArray, List.set_cons_zero, List.set_cons_succ]
    refine R_tk 3 56 hS.out ?_
    refine R_tk 4 57 hS.out ?_
    simp only [List.setIfInBounds_toArray, List.set_cons_zero, List.set_cons_succ]
    refine R_tk 5 58 hS.out ?_
    simp only [List.setIfInBounds_toArray, List.set_cons_zero, List.set_cons_succ]
    have hS7 := Lib.hid ((show (w6.setCell ⟨fb, it.idx * 9 + 7, none⟩ (.bool true)).cell? ⟨g3, 3, none⟩ = some (.int .u64 x.lsn) from (World.cell?_of_block (a := ⟨g3, 3, none⟩) (Below.heap_setCell w6 ⟨fb, it.idx * 9 + 7, none⟩ (.bool true) g3 hg3fb)).trans hS.out))
    refine R_store 6 (n := .skip) (w' := w6.setCell ⟨fb, it.idx * 9 + 7, none⟩ (.bool true)) rfl rfl (by rfl) (by kernel_rfl) (by go_simp) (.inl rfl) (fun _ => hS7.out) ?_
    have hB7 := hBd.set_ (it.idx * 9 + 7) (.bool true)
    have ht7 := htd.setCell (p := ⟨fb, it.idx * 9 + 7, none⟩) (.inl hFfb) (.bool true)
    have hk7 : ∀ b, b ≠ fb → (w6.setCell ⟨fb, it.idx * 9 + 7, none⟩ (.bool true)).heap[b]? = w4.heap[b]? := fun b hb => (Below.heap_setCell w6 _ _ b hb).trans (hkd b hb)
    have hs7 : w4.heap.size ≤ (w6.setCell ⟨fb, it.idx * 9 + 7, none⟩ (.bool true)).heap.size := by simpa [World.setCell] using hsd
    have hf8 := hB7.frozen (it.idx * 9 + 8)
    have hlt8 : it.idx * 9 + 8 < cs6.size := by omega
    have hb8 : (w6.setCell ⟨fb, it.idx * 9 + 7, none⟩ (.bool true)).cell? ⟨fb, it.idx * 9 + 8, none⟩ = some (.int .u64 it.from_) := by
      rw [hB7.cell, Array.getElem?_setIfInBounds_ne (by omega), ← hBd.cell]; exact hd8
    obtain ⟨w7, hw7⟩ : ∃ w7, w7 = w6.setCell ⟨fb, it.idx * 9 + 7, none⟩ (.bool true) := ⟨_, rfl⟩
    rw [← hw7] at hS7 hB7 ht7 hk7 hs7 hf8 hb8 ⊢
    clear hw7 hd7 hd8 hy7 hy8 hBd htd hkd hsd hS
    refine R_tk 7 59 hS7.out ?_
    refine R_tk 8 60 hS7.out ?_
    simp only [List.setIfInBounds_toArray, List.set_cons_zero, List.set_cons_succ]
    have hS8 := Lib.hid ((show (w7.setCell ⟨fb, it.idx * 9 + 8, none⟩ (.int .u64 x.lsn)).cell? ⟨g3, 3, none⟩ = some (.int .u64 x.lsn) from (World.cell?_of_block (a := ⟨g3, 3, none⟩) (Below.heap_setCell w7 ⟨fb, it.idx * 9 + 8, none⟩ (.int .u64 x.lsn) g3 hg3fb)).trans hS7.out))
    refine R_store 9 (n := .skip) (w' := w7.setCell ⟨fb, it.idx * 9 + 8, none⟩ (.int .u64 x.lsn)) rfl rfl (by rfl) (by kernel_rfl) (by go_simp) (.inl rfl) (fun _ => hS8.out) ?_
    have hB8 := Lib.hid (hB7.set_ (it.idx * 9 + 8) (.int .u64 x.lsn))
    have ht8 := Lib.hid (ht7.setCell (p := ⟨fb, it.idx * 9 + 8, none⟩) (.inl hFfb) (.int .u64 x.lsn))
    have hk8 : Hid (∀ b, b ≠ fb → (w7.setCell ⟨fb, it.idx * 9 + 8, none⟩ (.int .u64 x.lsn)).heap[b]? = w4.heap[b]?) := fun b hb => (Below.heap_setCell w7 _ _ b hb).trans (hk7 b hb)
    have hs8 : Hid (w4.heap.size ≤ (w7.setCell ⟨fb, it.idx * 9 + 8, none⟩ (.int .u64 x.lsn)).heap.size) := by show _ ≤ _; simpa [World.setCell] using hs7
    refine R_done (by kernel_rfl) ?_ _
    rename_i K9 hK9
    refine hK9 _ _ ?_
    clear hK9 hB7 ht7 hk7 hs7 hS7 hS8 hf8 hb8
    generalize w7.setCell ⟨fb, it.idx * 9 + 8, none⟩ (.int .u64 x.lsn) = w8 at *
    go_wp2_with fail
    go_ret
    refine hpost.out ((cs6.setIfInBounds (it.idx * 9 + 7) (.bool true)).setIfInBounds (it.idx * 9 + 8) (.int .u64 x.lsn)) w8 { it with page := x, dirty := true, from_ := x.lsn } (by unfold Sp.It.put; rw [if_pos hide, if_neg (by rw [hd]; decide)]) (by simp; exact hsz6) (fun j hj => ?_) (fun k hk => ?_) hB8.out hk8.out hs8.out ht8.out
    · by_cases j8 : j = 8
      · subst j8
        rw [Array.getElem?_setIfInBounds_self_of_lt (by simp; omega)]
        rfl
      · rw [Array.getElem?_setIfInBounds_ne (by omega)]
        by_cases j7 : j = 7
        · subst j7
          rw [Array.getElem?_setIfInBounds_self_of_lt (by omega)]
          rfl
        · rw [Array.getElem?_setIfInBounds_ne (by omega)]
          have hj7 : j < 7 := by omega
          clear hj j8 j7
          match j, hj7 with
          | 0, _ => exact HIN.out 0 (by omega)
          | 1, _ => exact HIN.out 1 (by omega)
          | 2, _ => exact HIN.out 2 (by omega)
          | 3, _ => exact HIN.out 3 (by omega)
          | 4, _ => exact HIN.out 4 (by omega)
          | 5, _ => exact HIN.out 5 (by omega)
          | 6, _ => exact (HOUT.out _ (by omega)).trans hc6
    · rw [Array.getElem?_setIfInBounds_ne (by omega), Array.getElem?_setIfInBounds_ne (by omega)]
      exact HOUT.out k (by omega)
end Go.Proofs.YtclpmkinjjhncaaGreat

/- Put of a pool: the cases that are refused; what a law sees. -/
namespace Go.Proofs.YtclpmkinjjhncaaGreat
open Go.RowKit Go.Conc

section
variable {F R G : Foot} {w : World} {gp gd gl at_ base fb cb mb s r : Nat} {v : Value} {cs : Array Value} {fl ids : List Nat} {p : Sp.Pl} {x : Sp.Pg} {A : Option Addr} {c : Nat}
set_option maxRecDepth 100000 in
set_option maxHeartbeats 2000000 in
theorem pool_put_arg (h : IsPlAt F R w gp gd gl at_ base fb cb mb v s r cs fl ids p) (hR : RowsAt G w A x.rows) (hn : x.rows.length ≤ 1000000000) (ht : Sp.total x.rows ≤ 1000000000000000000) (hm : mayB x = false) :
    Calls Tryz.prog 44 #[ptr gp, pgV x A c] w fun e w' => e = .returned (.int .i64 2) ∧ Below w.heap.size w w' := by
  have hba := (Below.refl w.heap.size w).alloc (Nat.le_refl _) (.cells (pgCs x A c) 50)
  have h1 := h.keep hba.size (fun b hb => hba.block b (h.lt b hb))
  have hB1 := Blk.new w 50 (pgCs x A c)
  have hR1 := Reads.below hR hba
  have HM := Lib.hid (pool_made (w := w.alloc (.cells (pgCs x A c) 50)) h1.cells.2.2.2.2.2.2.1)
  have HMA := Lib.hid (page_mayT (w := w.alloc (.cells (pgCs x A c) 50)) (c := c) hR1 hn ht)
  rw [hm] at HMA
  clear h hR
  go_enter Tryz.func44, Tryz.ntmps44
  go_wp2_with fail
  obtain ⟨w1, hw1⟩ : ∃ w1, w1 = w.alloc (.cells (pgCs x A c) 50) := ⟨_, rfl⟩
  rw [← hw1] at h1 hB1 hR1 HM HMA hba ⊢
  obtain ⟨g3, hg3⟩ : ∃ g, g = w.heap.size := ⟨_, rfl⟩
  rw [← hg3] at hB1 ⊢
  clear hw1 hg3
  have z0 := hB1.cell 0
  have z1 := hB1.cell 1
  have z2 := hB1.cell 2
  have z3 := hB1.cell 3
  have z4 := hB1.cell 4
  have z5 := hB1.cell 5
  simp only [List.getElem?_toArray, List.getElem?_cons_succ, List.getElem?_cons_zero] at z0 z1 z2 z3 z4 z5
  refine HM.out.mono ?_
  rintro e w2 ⟨rfl, hw⟩
  subst w2
  go_wp2_with fail
  refine HMA.out.mono ?_
  rintro e w2 ⟨rfl, hb2⟩
  have hb02 := hba.trans (hb2.mono hba.size)
  clear z0 z1 z2 z3 z4 z5 h1 hB1 hR1 HM HMA
  go_wp2_with fail
  go_ret
  exact ⟨rfl, hb02⟩

set_option maxRecDepth 100000 in
set_option maxHeartbeats 2000000 in
theorem pool_put_none (h : IsPlAt F R w gp gd gl at_ base fb cb mb v s r cs fl ids p) (hid : x.id < 4294967296) (hR : RowsAt G w A x.rows) (hn : x.rows.length ≤ 1000000000) (ht : Sp.total x.rows ≤ 1000000000000000000) (hm : mayB x = true) (hf : ∀ it, p.find x.id = some it → it.pins = 0) :
    Calls Tryz.prog 44 #[ptr gp, pgV x A c] w fun e w' => e = .returned (.int .i64 3) ∧ Below w.heap.size w w' := by
  have hba := (Below.refl w.heap.size w).alloc (Nat.le_refl _) (.cells (pgCs x A c) 50)
  have h1 := h.keep hba.size (fun b hb => hba.block b (h.lt b hb))
  have hB1 := Blk.new w 50 (pgCs x A c)
  have hR1 := Reads.below hR hba
  have HM := Lib.hid (pool_made (w := w.alloc (.cells (pgCs x A c) 50)) h1.cells.2.2.2.2.2.2.1)
  have HMA := Lib.hid (page_mayT (w := w.alloc (.cells (pgCs x A c) 50)) (c := c) hR1 hn ht)
  rw [hm] at HMA
  clear h hR
  go_enter Tryz.func44, Tryz.ntmps44
  go_wp2_with fail
  obtain ⟨w1, hw1⟩ : ∃ w1, w1 = w.alloc (.cells (pgCs x A c) 50) := ⟨_, rfl⟩
  rw [← hw1] at h1 hB1 hR1 HM HMA hba ⊢
  obtain ⟨g3, hg3⟩ : ∃ g, g = w.heap.size := ⟨_, rfl⟩
  rw [← hg3] at hB1 ⊢
  clear hw1 hg3
  have z0 := hB1.cell 0
  have z1 := hB1.cell 1
  have z2 := hB1.cell 2
  have z3 := hB1.cell 3
  have z4 := hB1.cell 4
  have z5 := hB1.cell 5
  simp only [List.getElem?_toArray, List.getElem?_cons_succ, List.getElem?_cons_zero] at z0 z1 z2 z3 z4 z5
  refine HM.out.mono ?_
  rintro e w2 ⟨rfl, hw⟩
  subst w2
  go_wp2_with fail
  refine HMA.out.mono ?_
  rintro e w2 ⟨rfl, hb2⟩
  have hb02 := hba.trans (hb2.mono hba.size)
  have h2 := h1.keep hb2.size (fun b hb => hb2.block b (h1.lt b hb))
  have hB2 := hB1.below hb2 hB1.lt
  have c6 := h2.cells.2.2.2.2.2.2.1
  have z2 := hB2.cell 2
  simp only [List.getElem?_toArray, List.getElem?_cons_succ, List.getElem?_cons_zero] at z2
  have HH2 := Lib.hid h2
  clear z0 z1 z3 z4 z5 h1 hB1 hR1 HM HMA h2
  cases hfi : p.find x.id with
  | none =>
    have hS := Lib.hid (show w2.drew.cell? ⟨gp, 6, none⟩ = some (.map (some mb)) ∧ w2.drew.cell? ⟨g3, 2, none⟩ = some (u32v x.id) ∧ (Instr.lookup 119 (.map (some mb)) (u32v x.id) true).run Tryz.prog w2.drew = .ok (.tuple #[.int .i64 0, .bool false]) w2.drew from
      ⟨c6, z2, (HH2.out.keep (w' := w2.drew) (Nat.le_refl _) (fun _ _ => rfl)).look_out hid hfi⟩)
    clear c6 z2
    go_wp2_with fail
    refine R_begin (fun W => W.cell? ⟨gp, 6, none⟩ = some (.map (some mb)) ∧ W.cell? ⟨g3, 2, none⟩ = some (u32v x.id) ∧ (Instr.lookup 119 (.map (some mb)) (u32v x.id) true).run Tryz.prog W = .ok (.tuple #[.int .i64 0, .bool false]) W) (fun _ => false) rfl ?_
    refine R_tk 0 15 hS.out ?_
    refine R_tk 1 16 hS.out ?_
    refine R_tk 2 17 hS.out ?_
    refine R_tk 3 18 hS.out ?_
    simp only [List.setIfInBounds_toArray, List.set_cons_zero, List.set_cons_succ]
    refine R_tk 4 19 hS.out ?_
    refine R_tk 5 20 hS.out ?_
    simp only [List.setIfInBounds_toArray, List.set_cons_zero, List.set_cons_succ]
    refine R_tk 6 21 hS.out ?_
    simp only [List.setIfInBounds_toArray, List.set_cons_zero, List.set_cons_succ]
    refine R_tk 7 14 hS.out ?_
    simp only [List.setIfInBounds_toArray, List.set_cons_zero, List.set_cons_succ]
    refine R_tk 8 22 hS.out ?_
    simp only [List.setIfInBounds_toArray, List.set_cons_zero, List.set_cons_succ]
    refine R_tk 9 23 hS.out ?_
    simp only [List.setIfInBounds_toArray, List.set_cons_zero, List.set_cons_succ]
    refine R_tk 10 5 hS.out ?_
    simp only [List.setIfInBounds_toArray, List.set_cons_zero, List.set_cons_succ]
    refine R_tk 11 6 hS.out ?_
    simp only [List.setIfInBounds_toArray, List.set_cons_zero, List.set_cons_succ]
    refine R_done (by kernel_rfl) ?_ _
    rename_i K9 hK9
    refine hK9 _ _ ?_
    clear hK9 hS
    go_wp2_with fail
    go_ret
    exact ⟨rfl, ⟨hb02.os, hb02.tape, hb02.output, hb02.size, hb02.block⟩⟩
  | some it =>
    have hp0 := hf it hfi
    have hit := (Sp.Pl.find_mem hfi).1
    have hS := Lib.hid (show w2.drew.cell? ⟨gp, 6, none⟩ = some (.map (some mb)) ∧ w2.drew.cell? ⟨g3, 2, none⟩ = some (u32v x.id) ∧ (Instr.lookup 119 (.map (some mb)) (u32v x.id) true).run Tryz.prog w2.drew = .ok (.tuple #[.int .i64 it.idx, .bool true]) w2.drew from
      ⟨c6, z2, (HH2.out.keep (w' := w2.drew) (Nat.le_refl _) (fun _ _ => rfl)).look_in hid hfi⟩)
    clear c6 z2
    go_wp2_with fail
    refine R_begin (fun W => W.cell? ⟨gp, 6, none⟩ = some (.map (some mb)) ∧ W.cell? ⟨g3, 2, none⟩ = some (u32v x.id) ∧ (Instr.lookup 119 (.map (some mb)) (u32v x.id) true).run Tryz.prog W = .ok (.tuple #[.int .i64 it.idx, .bool true]) W) (fun _ => false) rfl ?_
    refine R_tk 0 15 hS.out ?_
    refine R_tk 1 16 hS.out ?_
    refine R_tk 2 17 hS.out ?_
    refine R_tk 3 18 hS.out ?_
    simp only [List.setIfInBounds_toArray, List.set_cons_zero, List.set_cons_succ]
    refine R_tk 4 19 hS.out ?_
    refine R_tk 5 20 hS.out ?_
    simp only [List.setIfInBounds_toArray, List.set_cons_zero, List.set_cons_succ]
    refine R_tk 6 21 hS.out ?_
    simp only [List.setIfInBounds_toArray, List.set_cons_zero, List.set_cons_succ]
    refine R_tk 7 14 hS.out ?_
    simp only [List.setIfInBounds_toArray, List.set_cons_zero, List.set_cons_succ]
    refine R_tk 8 22 hS.out ?_
    simp only [List.setIfInBounds_toArray, List.set_cons_zero, List.set_cons_succ]
    refine R_tk 9 23 hS.out ?_
    simp only [List.setIfInBounds_toArray, List.set_cons_zero, List.set_cons_succ]
    refine R_tk 10 5 hS.out ?_
    simp only [List.setIfInBounds_toArray, List.set_cons_zero, List.set_cons_succ]
    refine R_tk 11 6 hS.out ?_
    simp only [List.setIfInBounds_toArray, List.set_cons_zero, List.set_cons_succ]
    refine R_done (by kernel_rfl) ?_ _
    rename_i K9 hK9
    refine hK9 _ _ ?_
    clear hK9 hS
    have h3 := HH2.out.keep (w' := w2.drew) (Nat.le_refl _) (fun _ _ => rfl)
    obtain ⟨c0, c1, c2, c3, c4, c5, c6, c7⟩ := h3.cells
    have cp := h3.pins hit
    rw [hp0] at cp
    have hlt9 := h3.wf.idx_lt hit
    have hn64 := h3.wf.n64
    have hb03 : Below w.heap.size w w2.drew := ⟨hb02.os, hb02.tape, hb02.output, hb02.size, hb02.block⟩
    obtain ⟨w3, hw3⟩ : ∃ w3, w3 = w2.drew := ⟨_, rfl⟩
    rw [← hw3] at c4 cp hb03 ⊢
    clear hw3 c0 c1 c2 c3 c5 c6 c7 h3 HH2 hb02 hb2 hba hB2
    go_wp2_with fail
    go_ret
    exact ⟨rfl, hb03⟩
end

theorem Sp.put_ri (p : Sp.Pl) (x : Sp.Pg) : (p.upd x.id (Sp.It.put x)).items.map Sp.It.ri = Sp.upR (p.items.map Sp.It.ri) x.id (fun y => if y.dirty then { y with page := x } else { y with page := x, dirty := true, from_ := x.lsn }) := by
  unfold Sp.Pl.upd Sp.upR
  rw [List.map_map, List.map_map]
  apply List.map_congr_left
  intro y _
  simp only [Function.comp]
  by_cases hy : y.page.id = x.id
  · rw [if_pos hy, if_pos (show y.ri.page.id = x.id from hy)]
    unfold Sp.It.put
    rw [if_pos hy]
    cases hd : y.dirty with
    | true => simp [Sp.It.ri, hd]
    | false => simp [Sp.It.ri, hd]
  · rw [if_neg hy, if_neg (show ¬ y.ri.page.id = x.id from hy)]

theorem pk_put {ly : Ly} {K G : Foot} {w : World} {gd gl gp : Nat} {l : Sp.Lg} {s : Sp.R15} (h : PkAt ly K w gd gl gp l s) {x : Sp.Pg} (hwf : x.wf) {A : Option Addr} {c : Nat} (hA : OkAddr A) (hR : RowsAt G w A x.rows) (hn : x.rows.length ≤ 1000000000) (ht : Sp.total x.rows ≤ 1000000000000000000) :
    Calls Tryz.prog 44 #[ptr gp, pgV x A c] w (CallPk ly K w gd gl gp l (s.put x (mayB x))) := by
  have H := h
  obtain ⟨p, D, F, G1, dk, hpl, hd, hg, hFD, hFG, hDG, hr, hK, hKl⟩ := h
  have hget : Sp.getR? s.L x.id = (p.find x.id).map Sp.It.ri := by rw [hr.L]; exact Sp.getR_eq p x.id
  obtain ⟨R, fb, cb, mb, v, s0, r, cs, hat⟩ := hpl
  cases hm : mayB x with
  | false =>
    have e : s.put x false = (2, s) := by unfold Sp.R15.put; rw [if_pos rfl]
    rw [e]
    refine (pool_put_arg hat hR hn ht hm).mono ?_
    rintro e' w' ⟨rfl, hb⟩
    exact pk_same H hb 2
  | true =>
    by_cases hno : ∀ it, p.find x.id = some it → it.pins = 0
    · have e : s.put x true = (3, s) := by
        unfold Sp.R15.put
        rw [if_neg (by decide), hget]
        cases hf : p.find x.id with
        | none => rfl
        | some it => simp [Sp.It.ri, hno it hf]
      rw [e]
      refine (pool_put_none hat hwf.2.2.1 hR hn ht hm hno).mono ?_
      rintro e' w' ⟨rfl, hb⟩
      exact pk_same H hb 3
    · cases hf : p.find x.id with
      | none => exact absurd (fun it h => by rw [hf] at h; cases h) hno
      | some it =>
        have hp : 1 ≤ it.pins := by
          rcases Nat.eq_zero_or_pos it.pins with e | e
          · exact absurd (fun it' h => by rw [hf] at h; injection h with h; rw [← h]; exact e) hno
          · exact e
        have e : s.put x true = (0, { s with L := Sp.upR s.L x.id (fun y => if y.dirty then { y with page := x } else { y with page := x, dirty := true, from_ := x.lsn }) }) := by
          unfold Sp.R15.put
          rw [if_neg (by decide), hget, hf]
          simp only [Option.map_some]
          rw [if_neg (by show ¬ it.pins = 0; omega)]
        rw [e]
        refine (pool_put hat ⟨hwf, (mayB_iff x).1 hm⟩ hA hR hf hp).mono ?_
        rintro e' w' ⟨rfl, F', R', cs', h', ht'⟩
        have e2 : (p.upd x.id (Sp.It.put x)).items.map (·.page.id) = p.items.map (·.page.id) := Sp.Pl.upd_ids (Sp.It.put_tame x)
        have hpl' : IsPl F' w' gp gd gl ly.at_ ly.base (p.upd x.id (Sp.It.put x)) := ⟨R', fb, cb, mb, v, s0, r, cs', by rw [e2]; exact h'⟩
        refine pk_pool hd hg hFD hFG hDG hK hKl hpl' ht' (hr.of h'.wf rfl ?_ (fun y hy => ?_)) 0
        · rw [hr.L]
          exact Sp.put_ri p x
        · obtain ⟨z, hz, rfl⟩ := Sp.Pl.upd_mem hy
          have := hr.in_ z hz
          split
          · rw [(Sp.It.put_tame x).id]; exact this
          · exact this
end Go.Proofs.YtclpmkinjjhncaaGreat

/- Package op: does, the map of what ops do. -/
namespace Go.Proofs.YtclpmkinjjhncaaGreat
open Go.RowKit

set_option maxRecDepth 100000 in
theorem does_row (k : Nat) (w : World) :
    Calls Tryz.prog 231 #[Value.func (.func k) #[] #[]] w fun e w' => e = .returned (Value.func (.func 232) #[] #[ptr w.heap.size]) ∧ w' = w.alloc (.cells #[Value.func (.func k) #[] #[]] 261) := by
  have hmf : ∀ (fn : Fn) (first cap : Array Value) (w : World), (Instr.makeFunc fn first cap).run Tryz.prog w = .ok (.func fn first cap) w := fun _ _ _ _ => rfl
  go_enter Tryz.func231, Tryz.ntmps231
  go_wp2_with fail
  go_ret
  exact ⟨rfl, rfl⟩
theorem does_ins {W w0 : World} {B mb : Nat} {vs : List Value} (hm : W.heap[mb]? = some (.map (mapEs vs) vs.length)) (hb : Below B w0 W) (hB : B ≤ mb) (v : Value) (hf : Instr.findNow (.int .u8) (.int .u8 ((vs.length + 1 : Nat) : Int)) (mapEs vs).toList 0 = some none) :
    ∃ W', (Instr.mapUpdate 262 (.map (some mb)) (.int .u8 ((vs.length + 1 : Nat) : Int)) v).run Tryz.prog W = .ok () W' ∧
      W'.heap[mb]? = some (.map (mapEs (vs ++ [v])) (vs ++ [v]).length) ∧ Below B w0 W' ∧ W'.heap.size = W.heap.size ∧
      ∀ (g : Nat) (t : TypeId) (gs : Array Value), g ≠ mb → Blk W g t gs → Blk W' g t gs := by
  refine ⟨_, run_update_new Tryz.underlying262 Tryz.underlying5 (by simp [MapKept.IsKey]) hm hf, ?_, below_mapW hb hm hB _ _, mapW_size _ _ _ _, fun g t gs hg h => h.mapW hm hg _ _⟩
  rw [mapW_at hm, mapEs_push]
  simp
theorem map_alloc {W w0 : World} {B mb : Nat} {o : Obj} (x : Obj) (hm : W.heap[mb]? = some o) (hb : Below B w0 W) (hB : B ≤ mb) : (W.alloc x).heap[mb]? = some o ∧ Below B w0 (W.alloc x) := by
  have hlt : mb < W.heap.size := by
    rcases Nat.lt_or_ge mb W.heap.size with h | h
    · exact h
    · rw [Array.getElem?_eq_none h] at hm; cases hm
  exact ⟨(Below.heap_alloc W _ mb hlt).trans hm, hb.alloc (by omega) x⟩
/-- What the map of op.does holds. -/
def doesVs (g3 g4 g8 : Nat) : List Value := [Value.func (.func 233) #[] #[], Value.func (.func 234) #[] #[], Value.func (.func 232) #[] #[ptr g3], Value.func (.func 232) #[] #[ptr g4], Value.func (.func 239) #[] #[], Value.func (.func 240) #[] #[], Value.func (.func 241) #[] #[], Value.func (.func 232) #[] #[ptr g8]]
def DoesAt (w : World) (mb g3 g4 g8 : Nat) : Prop :=
  w.heap[mb]? = some (.map (mapEs (doesVs g3 g4 g8)) 8) ∧ Blk w g3 261 #[Value.func (.func 236) #[] #[]] ∧ Blk w g4 261 #[Value.func (.func 237) #[] #[]] ∧ Blk w g8 261 #[Value.func (.func 242) #[] #[]]
set_option maxRecDepth 100000 in
set_option maxHeartbeats 2000000 in
theorem op_does (w : World) :
    Calls Tryz.prog 175 #[] w fun e w' => ∃ mb g3 g4 g8, e = .returned (.map (some mb)) ∧ DoesAt w' mb g3 g4 g8 ∧ Below w.heap.size w w' := by
  have hmm := @run_makeMap Tryz.prog
  have hb0 : Below w.heap.size w (w.alloc (.map #[] 0)) := (Below.refl w.heap.size w).alloc (Nat.le_refl _) _
  have hm0 : (w.alloc (.map #[] 0)).heap[w.heap.size]? = some (.map (mapEs []) ([] : List Value).length) := heap_alloc_new w _
  have z0 : (w.alloc (.map #[] 0)).heap.size = w.heap.size + 1 := by simp
  obtain ⟨w1, u1, m1, b1, z1, k1⟩ := does_ins hm0 hb0 (Nat.le_refl _) (Value.func (.func 233) #[] #[]) rfl
  obtain ⟨w2, u2, m2, b2, z2, k2⟩ := does_ins m1 b1 (Nat.le_refl _) (Value.func (.func 234) #[] #[]) rfl
  obtain ⟨ma3, ba3⟩ := map_alloc (.cells #[Value.func (.func 236) #[] #[]] 261) m2 b2 (Nat.le_refl _)
  have B3 := Blk.new w2 261 #[Value.func (.func 236) #[] #[]]
  obtain ⟨w3, u3, m3, b3, z3, k3⟩ := does_ins ma3 ba3 (Nat.le_refl _) (Value.func (.func 232) #[] #[ptr (w2.heap.size)]) rfl
  obtain ⟨ma4, ba4⟩ := map_alloc (.cells #[Value.func (.func 237) #[] #[]] 261) m3 b3 (Nat.le_refl _)
  have B4 := Blk.new w3 261 #[Value.func (.func 237) #[] #[]]
  obtain ⟨w4, u4, m4, b4, z4, k4⟩ := does_ins ma4 ba4 (Nat.le_refl _) (Value.func (.func 232) #[] #[ptr (w3.heap.size)]) rfl
  obtain ⟨w5, u5, m5, b5, z5, k5⟩ := does_ins m4 b4 (Nat.le_refl _) (Value.func (.func 239) #[] #[]) rfl
  obtain ⟨w6, u6, m6, b6, z6, k6⟩ := does_ins m5 b5 (Nat.le_refl _) (Value.func (.func 240) #[] #[]) rfl
  obtain ⟨w7, u7, m7, b7, z7, k7⟩ := does_ins m6 b6 (Nat.le_refl _) (Value.func (.func 241) #[] #[]) rfl
  obtain ⟨ma8, ba8⟩ := map_alloc (.cells #[Value.func (.func 242) #[] #[]] 261) m7 b7 (Nat.le_refl _)
  have B8 := Blk.new w7 261 #[Value.func (.func 242) #[] #[]]
  obtain ⟨w8, u8, m8, b8, z8, k8⟩ := does_ins ma8 ba8 (Nat.le_refl _) (Value.func (.func 232) #[] #[ptr (w7.heap.size)]) rfl
  have a3 : (w2.alloc (.cells #[Value.func (.func 236) #[] #[]] 261)).heap.size = w2.heap.size + 1 := by simp
  have a4 : (w3.alloc (.cells #[Value.func (.func 237) #[] #[]] 261)).heap.size = w3.heap.size + 1 := by simp
  have a8 : (w7.alloc (.cells #[Value.func (.func 242) #[] #[]] 261)).heap.size = w7.heap.size + 1 := by simp
  have n3 : w2.heap.size ≠ w.heap.size := by omega
  have n4 : w3.heap.size ≠ w.heap.size := by omega
  have n8 : w7.heap.size ≠ w.heap.size := by omega
  have D3 : Blk w8 w2.heap.size 261 #[Value.func (.func 236) #[] #[]] := k8 _ _ _ n3 ((k7 _ _ _ n3 (k6 _ _ _ n3 (k5 _ _ _ n3 (k4 _ _ _ n3 ((k3 _ _ _ n3 B3).alloc _))))).alloc _)
  have D4 : Blk w8 w3.heap.size 261 #[Value.func (.func 237) #[] #[]] := k8 _ _ _ n4 ((k7 _ _ _ n4 (k6 _ _ _ n4 (k5 _ _ _ n4 (k4 _ _ _ n4 B4)))).alloc _)
  have D8 : Blk w8 w7.heap.size 261 #[Value.func (.func 242) #[] #[]] := k8 _ _ _ n8 B8
  have HD := Lib.hid (show DoesAt w8 w.heap.size w2.heap.size w3.heap.size w7.heap.size from ⟨m8, D3, D4, D8⟩)
  have HB := Lib.hid b8
  replace u1 : (Instr.mapUpdate 262 (.map (some w.heap.size)) (.int .u8 1) (Value.func (.func 233) #[] #[])).run Tryz.prog (w.alloc (.map #[] 0)) = .ok () w1 := u1
  replace u2 : (Instr.mapUpdate 262 (.map (some w.heap.size)) (.int .u8 2) (Value.func (.func 234) #[] #[])).run Tryz.prog w1 = .ok () w2 := u2
  replace u3 : (Instr.mapUpdate 262 (.map (some w.heap.size)) (.int .u8 3) (Value.func (.func 232) #[] #[ptr (w2.heap.size)])).run Tryz.prog (w2.alloc (.cells #[Value.func (.func 236) #[] #[]] 261)) = .ok () w3 := u3
  replace u4 : (Instr.mapUpdate 262 (.map (some w.heap.size)) (.int .u8 4) (Value.func (.func 232) #[] #[ptr (w3.heap.size)])).run Tryz.prog (w3.alloc (.cells #[Value.func (.func 237) #[] #[]] 261)) = .ok () w4 := u4
  replace u5 : (Instr.mapUpdate 262 (.map (some w.heap.size)) (.int .u8 5) (Value.func (.func 239) #[] #[])).run Tryz.prog w4 = .ok () w5 := u5
  replace u6 : (Instr.mapUpdate 262 (.map (some w.heap.size)) (.int .u8 6) (Value.func (.func 240) #[] #[])).run Tryz.prog w5 = .ok () w6 := u6
  replace u7 : (Instr.mapUpdate 262 (.map (some w.heap.size)) (.int .u8 7) (Value.func (.func 241) #[] #[])).run Tryz.prog w6 = .ok () w7 := u7
  replace u8 : (Instr.mapUpdate 262 (.map (some w.heap.size)) (.int .u8 8) (Value.func (.func 232) #[] #[ptr (w7.heap.size)])).run Tryz.prog (w7.alloc (.cells #[Value.func (.func 242) #[] #[]] 261)) = .ok () w8 := u8
  have R4 := Lib.hid (does_row 236 w2)
  have R5 := Lib.hid (does_row 237 w3)
  have R9 := Lib.hid (does_row 242 w7)
  clear hb0 hm0 z0 m1 b1 z1 k1 m2 b2 z2 k2 ma3 ba3 B3 m3 b3 z3 k3 ma4 ba4 B4 m4 b4 z4 k4 m5 b5 z5 k5 m6 b6 z6 k6 m7 b7 z7 k7 ma8 ba8 B8 m8 b8 z8 k8 a3 a4 a8 n3 n4 n8 D3 D4 D8
  go_enter Tryz.func175, Tryz.ntmps175
  go_wp2_with fail
  refine R4.out.mono ?_
  rintro e x ⟨rfl, rfl⟩
  go_wp2_with fail
  refine R5.out.mono ?_
  rintro e x ⟨rfl, rfl⟩
  go_wp2_with fail
  refine R9.out.mono ?_
  rintro e x ⟨rfl, rfl⟩
  go_wp2_with fail
  go_ret
  exact ⟨w.heap.size, w2.heap.size, w3.heap.size, w7.heap.size, rfl, HD.out, HB.out⟩
end Go.Proofs.YtclpmkinjjhncaaGreat

/- Package op: what fill and put do to a page whose rows are its own. -/
namespace Go.Proofs.YtclpmkinjjhncaaGreat
open Go.RowKit

/-- A page in a block of its own, with its rows in an own row. -/
structure PgIn (B : Nat) (w : World) (gp : Nat) (x : Sp.Pg) (v : Value) : Prop where
  blk : Blk w gp 50 #[.int .u8 x.kind, .int .u8 x.level, .int .u32 x.id, .int .u64 x.lsn, .int .u32 x.next, v]
  own : w.ownsRow B 9 1 v x.rows.length (rcs x.rows)
  ge : B ≤ gp
/-- What an op leaves that could be done. -/
def didF (gp : Nat) (v : Value) : Foot := fun b => b = gp ∨ v.ownBlock = some b
def DidOk (B gp : Nat) (v0 : Value) (x : Sp.Pg) (w : World) (e : Ending) (w' : World) : Prop := e = .returned (.int .i64 0) ∧ (∃ v, PgIn B w' gp x v) ∧ Below B w w' ∧ Turns (didF gp v0) (didF gp v0) w w'
theorem PgIn.below {B gp : Nat} {w w' : World} {x : Sp.Pg} {v : Value} (h : PgIn B w gp x v) (hb : Below w.heap.size w w') : PgIn B w' gp x v := ⟨h.blk.below hb h.blk.lt, own_keep h.own (fun k hk => hb.block k (h.own.lt k hk).2), h.ge⟩
section
variable {B gp c : Nat} {w : World} {x : Sp.Pg} {v : Value} {o : Sp.Op} {G : Foot} {A : Option Addr}
set_option maxRecDepth 100000 in
set_option maxHeartbeats 4000000 in
theorem does_fill (h : PgIn B w gp x v) (hR : RowsAt G w A o.rows) (hpos : 0 < o.rows.length) (hn : x.rows.length + o.rows.length ≤ 1000000) :
    Calls Tryz.prog 240 #[ptr gp, opV o A c] w (DidOk B gp v { x with rows := x.rows ++ o.rows } w) := by
  obtain ⟨is, his, hs0, hs1, hs2⟩ := info_parts str_info
  replace his := Lib.hid his
  replace hs0 := Lib.hid hs0
  replace hs1 := Lib.hid hs1
  replace hs2 := Lib.hid hs2
  obtain ⟨b, ob, rfl, hGb, hbl, hcell⟩ := hR.2 hpos
  have hB1 := Blk.new w 28 (opCs o (some ⟨b, ob, none⟩) c)
  have hb1 := (Below.refl w.heap.size w).alloc (Nat.le_refl _) (.cells (opCs o (some ⟨b, ob, none⟩) c) 28)
  have hP1 := h.blk.alloc (.cells (opCs o (some ⟨b, ob, none⟩) c) 28)
  have hO1 := own_keep h.own (fun k hk => hb1.block k (h.own.lt k hk).2)
  have hce : ∀ j u, (rcs o.rows)[j]? = some u → (w.alloc (.cells (opCs o (some ⟨b, ob, none⟩) c) 28)).cell? ((⟨b, ob, none⟩ : Addr).add j) = some u := fun j u hu => by
    rw [addr_add]
    exact (hb1.cell (p := ⟨b, ob + j, none⟩) hbl).trans (hcell j u hu)
  have hge := h.ge
  have hgl := h.blk.lt
  have hBw : B ≤ w.heap.size := by omega
  have hgv : ∀ k, v.ownBlock = some k → k ≠ gp := fun k hk e => own_ne h.own h.blk (by decide) (e ▸ hk)
  go_enter Tryz.func240, Tryz.ntmps240
  go_upto_region 1 with fail
  change Code.wp _ _ _ _ (w.alloc (.cells (opCs o (some ⟨b, ob, none⟩) c) 28))
  have hbB : Below B w (w.alloc (.cells (opCs o (some ⟨b, ob, none⟩) c) 28)) := (Below.refl B w).alloc hBw _
  generalize w.alloc (.cells (opCs o (some ⟨b, ob, none⟩) c) 28) = w1 at hB1 hb1 hP1 hO1 hce hbB ⊢
  have hsw : w.heap.size < w1.heap.size := hB1.lt
  have c5 := hB1.cell 5
  have p5 := hP1.cell 5
  simp only [opCs, List.getElem?_toArray, List.getElem?_cons_succ, List.getElem?_cons_zero] at c5 p5
  have hS := Lib.hid (show w1.drew.cell? ⟨w.heap.size, 5, none⟩ = some (.slice (some ⟨b, ob, none⟩) o.rows.length c) ∧ w1.drew.cell? ⟨gp, 5, none⟩ = some v from ⟨c5, p5⟩)
  obtain ⟨v2, w2, hrun, hO2, hg2, hk2⟩ := run_append_own2 (P := Tryz.prog) w1.drew B 26 26 9 is _ 1 16 Tryz.underlying26 his.out hs0.out hs1.out hs2.out rfl (by decide) v x.rows.length _ hO1 ⟨b, ob, none⟩ o.rows.length c (rcs o.rows) (by simp [rcs]) hce (fun u hu => by
    obtain ⟨y, _, rfl⟩ := List.mem_map.1 hu; rfl) (by unfold maxLen; omega) (by omega) (by show B ≤ w1.heap.size; omega)
  have hPg := Lib.hid (hP1.drew.grown hg2 (fun e => hgv gp e.symm rfl))
  have hBg := Lib.hid (hB1.drew.grown hg2 (fun e => by have := (h.own.lt _ e.symm).2; omega))
  have hbB2 : Below B w w2 := hbB.drew.grown hg2 (show B ≤ w1.heap.size by omega) (fun k hk => (h.own.lt k hk).1)
  have HO2 := Lib.hid hO2
  have HB2 := Lib.hid hbB2
  have HT2 := Lib.hid ((Turns.of_below hb1 (didF gp v)).drew.grown hg2 (fun k hk => .inl (.inr hk)))
  have hv2 : ∀ k, v2.ownBlock = some k → k ≠ gp := fun k hk => by
    rcases hk2 k hk with h1 | h1
    · exact hgv k h1
    · have h1 : w1.heap.size ≤ k := h1
      omega
  clear hce hcell hO1 hP1 hB1 hb1 hbB hbB2 hO2 hg2 hk2 h hR c5 p5
  refine R_begin (fun W => W.cell? ⟨w.heap.size, 5, none⟩ = some (.slice (some ⟨b, ob, none⟩) o.rows.length c) ∧ W.cell? ⟨gp, 5, none⟩ = some v) (fun j => decide (8 ≤ j)) rfl ?_
  refine R_tt 0 5 hS.out ?_
  simp only [List.setIfInBounds_toArray, List.set_cons_zero, List.set_cons_succ]
  refine R_tt 1 6 hS.out ?_
  simp only [List.setIfInBounds_toArray, List.set_cons_zero, List.set_cons_succ]
  refine R_tt 2 7 hS.out ?_
  simp only [List.setIfInBounds_toArray, List.set_cons_zero, List.set_cons_succ]
  refine R_tt 3 8 hS.out ?_
  simp only [List.setIfInBounds_toArray, List.set_cons_zero, List.set_cons_succ]
  refine R_tt 4 9 hS.out ?_
  simp only [List.setIfInBounds_toArray, List.set_cons_zero, List.set_cons_succ]
  refine R_tt 5 10 hS.out ?_
  simp only [List.setIfInBounds_toArray, List.set_cons_zero, List.set_cons_succ]
  refine R_tt 6 11 hS.out ?_
  simp only [List.setIfInBounds_toArray, List.set_cons_zero, List.set_cons_succ]
  have hS2 := Lib.hid (show w2.cell? ⟨w.heap.size, 5, none⟩ = some (.slice (some ⟨b, ob, none⟩) o.rows.length c) ∧ w2.cell? ⟨gp, 5, none⟩ = some v from ⟨hBg.out.cell 5, hPg.out.cell 5⟩)
  refine R_run 7 12 (v := v2) (w' := w2) rfl rfl (by rfl) (by kernel_rfl) (run_op_append _ _ _ rfl rfl rfl hrun) (fun _ => hS2.out) ?_
  simp only [List.setIfInBounds_toArray, List.set_cons_zero, List.set_cons_succ]
  refine R_run 8 13 (v := ptr gp) (w' := w2) rfl rfl (by rfl) (by kernel_rfl) (by go_simp) (fun h => absurd h (by decide)) ?_
  simp only [List.setIfInBounds_toArray, List.set_cons_zero, List.set_cons_succ]
  refine R_run 9 14 (v := .pointer (some ⟨gp, 5, none⟩)) (w' := w2) rfl rfl (by rfl) (by kernel_rfl) (by go_simp) (fun h => absurd h (by decide)) ?_
  simp only [List.setIfInBounds_toArray, List.set_cons_zero, List.set_cons_succ]
  obtain ⟨n1, hn1⟩ : ∃ n1, x.rows.length + o.rows.length = n1 + 1 := ⟨x.rows.length + o.rows.length - 1, by omega⟩
  have hO3 := HO2.out
  rw [hn1] at hO3
  obtain ⟨g2, c2, rfl⟩ := own_form hO3
  refine R_store 10 (n := .skip) (w' := w2.setCell ⟨gp, 5, none⟩ (.slice (some ⟨g2, 0, none⟩) (n1 + 1) c2)) rfl rfl (by rfl) (by kernel_rfl) ?_ (.inl rfl) (fun h => absurd h (by decide)) ?_
  · have f6 := hPg.out.frozen 5
    have q6 := hPg.out.cell 5
    simp only [List.getElem?_toArray, List.getElem?_cons_succ, List.getElem?_cons_zero] at q6
    clear hn1
    go_simp
  refine R_done (by kernel_rfl) ?_ _
  rename_i K9 hK9
  refine hK9 _ _ ?_
  clear hK9
  have hg2p : g2 ≠ gp := hv2 g2 rfl
  have hend : DidOk B gp v { x with rows := x.rows ++ o.rows } w (.returned (.int .i64 0)) (w2.setCell ⟨gp, 5, none⟩ (.slice (some ⟨g2, 0, none⟩) (n1 + 1) c2)) := by
    refine ⟨rfl, ⟨_, hPg.out.set_ 5 _, ?_, hge⟩, HB2.out.setCell (p := ⟨gp, 5, none⟩) hge _, HT2.out.setCell (p := ⟨gp, 5, none⟩) (.inl (.inl rfl)) _⟩
    have e1 : (x.rows ++ o.rows).length = n1 + 1 := by rw [List.length_append]; exact hn1
    have e2 : rcs (x.rows ++ o.rows) = rcs x.rows ++ rcs o.rows := by simp only [rcs, List.map_append]
    show World.ownsRow _ B _ 1 _ (x.rows ++ o.rows).length (rcs (x.rows ++ o.rows))
    rw [e1, e2]
    exact own_keep hO3 (fun k hk => Below.heap_setCell w2 ⟨gp, 5, none⟩ _ k (fun e => hv2 k hk e))
  clear hn1 hO3 HO2 HB2 HT2 hS2 hPg hBg hv2 hg2p hrun hS
  go_wp2_with fail
  go_ret
  exact hend
end
end Go.Proofs.YtclpmkinjjhncaaGreat

/- slices.Insert of one string behind all. -/
namespace Go.Proofs.YtclpmkinjjhncaaGreat
open Go.RowKit

set_option maxRecDepth 100000 in
set_option maxHeartbeats 4000000 in
theorem insert_end {B : Nat} {w : World} {v : Value} {n g : Nat} {xs : List Value} {t : Sp.Bs} (hO : w.ownsRow B 9 1 v n xs) (hg : Blk w g 9 #[str t]) (hn : n ≤ 1000000) (hB : B ≤ w.heap.size) :
    Calls Tryz.prog 235 #[v, .int .i64 n, .slice (some ⟨g, 0, none⟩) 1 1] w fun e w' => ∃ v', e = .returned v' ∧ w'.ownsRow B 9 1 v' (n + 1) (xs ++ [str t]) ∧ w.grownBy w' v.ownBlock ∧ (∀ k, v'.ownBlock = some k → v.ownBlock = some k ∨ w.heap.size ≤ k) := by
  obtain ⟨is, his, hs0, hs1, hs2⟩ := info_parts str_info
  obtain ⟨v2, w2, hrun, hO2, hg2, hk2⟩ := run_append_own2 (P := Tryz.prog) w B 26 26 9 is _ 1 16 Tryz.underlying26 his hs0 hs1 hs2 rfl (by decide) v n _ hO ⟨g, 0, none⟩ 1 1 [str t] (by simp) (fun j u hu => by
    cases j with
    | zero => exact (hg.cell 0).trans hu
    | succ j => simp at hu) (fun u hu => by simp at hu; subst hu; rfl) (by unfold maxLen; omega) (by omega) hB
  have HR := Lib.hid hrun
  have HX := Lib.hid (And.intro hO2 (And.intro hg2 hk2))
  have d1 : ((n : Int) == (n : Int)) = true := by simp
  clear hO2 hg2 hk2 hrun
  obtain ⟨hl, ⟨rfl, rfl⟩ | ⟨go, cap, cur, rfl, hgo, hh, hnc, hcm, hsz, ht⟩⟩ := hO
  · go_enter Tryz.func235, Tryz.ntmps235
    go_wp2_with (first
      | ((with_reducible refine wpList_run (v := v2) (w' := w2) 25 rfl rfl ?_ ?_); exact run_op_append _ _ _ rfl rfl rfl HR.out; simp only [List.setIfInBounds_toArray, List.set_cons_zero, List.set_cons_succ]))
    go_ret
    exact ⟨_, rfl, HX.out.1, HX.out.2.1, HX.out.2.2⟩
  · go_enter Tryz.func235, Tryz.ntmps235
    go_wp2_with (first
      | ((with_reducible refine wpList_run (v := v2) (w' := w2) 25 rfl rfl ?_ ?_); exact run_op_append _ _ _ rfl rfl rfl HR.out; simp only [List.setIfInBounds_toArray, List.set_cons_zero, List.set_cons_succ]))
    all_goals
      go_ret
      exact ⟨_, rfl, HX.out.1, HX.out.2.1, HX.out.2.2⟩
section
variable {B gp c : Nat} {w : World} {x : Sp.Pg} {v : Value} {o : Sp.Op} {A : Option Addr}
set_option maxRecDepth 100000 in
set_option maxHeartbeats 4000000 in
theorem does_put_none (h : PgIn B w gp x v) (ha : (x.rows.length : Int) < o.at_) :
    Calls Tryz.prog 234 #[ptr gp, opV o A c] w fun e w' => e = .returned (.int .i64 3) ∧ Below w.heap.size w w' := by
  have hB1 := Blk.new w 28 (opCs o A c)
  have hb1 := (Below.refl w.heap.size w).alloc (Nat.le_refl _) (.cells (opCs o A c) 28)
  have hP1 := h.blk.alloc (.cells (opCs o A c) 28)
  have hO := h.own
  clear h
  go_enter Tryz.func234, Tryz.ntmps234
  go_upto_region 1 with fail
  change Code.wp _ _ _ _ (w.alloc (.cells (opCs o A c) 28))
  generalize w.alloc (.cells (opCs o A c) 28) = w1 at hB1 hb1 hP1 ⊢
  have c2 := hB1.cell 2
  have p5 := hP1.cell 5
  simp only [opCs, List.getElem?_toArray, List.getElem?_cons_succ, List.getElem?_cons_zero] at c2 p5
  have d1 : decide ((x.rows.length : Int) < o.at_) = true := decide_eq_true ha
  clear hB1 hP1
  obtain ⟨hl, ⟨rfl, hl0⟩ | ⟨go, cap, cur, rfl, hgo, hh, hnc, hcm, hsz, ht⟩⟩ := hO
  · rw [hl0] at d1 ha
    have d2 : (0 : Int) < o.at_ := by simpa using ha
    clear hl hl0
    go_quiet (fail)
    go_wp2_with fail
    go_ret
    exact ⟨rfl, below_drewN' hb1 nq⟩
  · clear hh ht hl hsz
    go_quiet (fail)
    go_wp2_with fail
    go_ret
    exact ⟨rfl, below_drewN' hb1 nq⟩
set_option maxRecDepth 100000 in
set_option maxHeartbeats 4000000 in
theorem does_put_end (h : PgIn B w gp x v) (ha : o.at_ = (x.rows.length : Int)) (hn : x.rows.length ≤ 1000000) :
    Calls Tryz.prog 234 #[ptr gp, opV o A c] w (DidOk B gp v { x with rows := x.rows ++ [o.text] } w) := by
  have hB1 := Blk.new w 28 (opCs o A c)
  have hb1 := (Below.refl w.heap.size w).alloc (Nat.le_refl _) (.cells (opCs o A c) 28)
  have hP1 := h.blk.alloc (.cells (opCs o A c) 28)
  have hO1 := own_keep h.own (fun k hk => hb1.block k (h.own.lt k hk).2)
  have hge := h.ge
  have hgl := h.blk.lt
  have hBw : B ≤ w.heap.size := by omega
  have hgv : ∀ k, v.ownBlock = some k → k ≠ gp := fun k hk e => own_ne h.own h.blk (by decide) (e ▸ hk)
  have hlv : ∀ k, v.ownBlock = some k → B ≤ k ∧ k < w.heap.size := fun k hk => h.own.lt k hk
  go_enter Tryz.func234, Tryz.ntmps234
  go_upto_region 1 with fail
  change Code.wp _ _ _ _ (w.alloc (.cells (opCs o A c) 28))
  have hbB : Below B w (w.alloc (.cells (opCs o A c) 28)) := (Below.refl B w).alloc hBw _
  generalize w.alloc (.cells (opCs o A c) 28) = w1 at hB1 hb1 hP1 hO1 hbB ⊢
  have hsw : w.heap.size < w1.heap.size := hB1.lt
  have c2 := hB1.cell 2
  have c4 := hB1.cell 4
  have p5 := hP1.cell 5
  simp only [opCs, List.getElem?_toArray, List.getElem?_cons_succ, List.getElem?_cons_zero, ha] at c2 c4 p5
  have HB1 := Lib.hid hB1
  have HP1 := Lib.hid hP1
  have HO1 := Lib.hid hO1
  have HBB := Lib.hid hbB
  have HTB := Lib.hid (Turns.of_below hb1 (didF gp v))
  have HA := Lib.hid ha
  clear hB1 hP1 hO1 hbB hb1 h ha
  go_cut [12] from 5 to 12 (fun u wx => u = .bool false ∧ ∃ n, wx = w1.drewN n)
  case first =>
    rename_i J9 K9 hJ9 hK9
    have d1 : decide ((x.rows.length : Int) < (x.rows.length : Int)) = false := by simp
    obtain ⟨hl, ⟨rfl, hl0⟩ | ⟨go, cap, cur, rfl, hgo, hh, hnc, hcm, hsz, ht⟩⟩ := HO1.out
    · rw [hl0] at c2
      clear hl
      go_quiet (fail)
      refine hK9 _ _ ?_
      clear hK9
      go_meet
      case rel => exact ⟨rfl, nq, rfl⟩
    · clear hh ht hl hsz
      go_quiet (fail)
      refine hK9 _ _ ?_
      clear hK9
      go_meet
      case rel => exact ⟨rfl, nq, rfl⟩
  case rest =>
  rename_i K8 hK8
  refine hK8 _ _ ?_
  clear hK8
  obtain ⟨rfl, n0, rfl⟩ := hcut
  have HB2 := Lib.hid (HB1.out.drewN n0)
  have HP2 := Lib.hid (HP1.out.drewN n0)
  have HO2 := Lib.hid (own_keep HO1.out (w' := w1.drewN n0) (fun k hk => rfl))
  have HBB2 := Lib.hid (below_drewN' HBB.out n0)
  have HTB2 := Lib.hid (HTB.out.drewN n0)
  have hsw2 : w.heap.size < (w1.drewN n0).heap.size := hsw
  have c2' : (w1.drewN n0).cell? ⟨w.heap.size, 2, none⟩ = some (.int .i64 (x.rows.length : Int)) := c2
  have c4' : (w1.drewN n0).cell? ⟨w.heap.size, 4, none⟩ = some (str o.text) := c4
  have p5' : (w1.drewN n0).cell? ⟨gp, 5, none⟩ = some v := p5
  clear HB1 HP1 HO1 HBB HTB hsw c2 c4 p5
  generalize w1.drewN n0 = w3 at *
  have hS := Lib.hid (show w3.drew.cell? ⟨w.heap.size, 2, none⟩ = some (.int .i64 (x.rows.length : Int)) ∧ w3.drew.cell? ⟨w.heap.size, 4, none⟩ = some (str o.text) ∧ w3.drew.cell? ⟨gp, 5, none⟩ = some v from ⟨c2', c4', p5'⟩)
  have hb4 : Below w3.heap.size w3 (w3.drew.alloc (.cells #[str o.text] 9)) := (Below.refl w3.heap.size w3).drew.alloc (Nat.le_refl _) _
  have hS4 := Lib.hid (show (w3.drew.alloc (.cells #[str o.text] 9)).cell? ⟨w.heap.size, 2, none⟩ = some (.int .i64 (x.rows.length : Int)) ∧ (w3.drew.alloc (.cells #[str o.text] 9)).cell? ⟨w.heap.size, 4, none⟩ = some (str o.text) ∧ (w3.drew.alloc (.cells #[str o.text] 9)).cell? ⟨gp, 5, none⟩ = some v from ⟨(hb4.cell (p := ⟨w.heap.size, 2, none⟩) hsw2).trans c2', (hb4.cell (p := ⟨w.heap.size, 4, none⟩) hsw2).trans c4', (hb4.cell (p := ⟨gp, 5, none⟩) (show gp < w3.heap.size by omega)).trans p5'⟩)
  have hlv3 : ∀ k, v.ownBlock = some k → k < w3.heap.size := fun k hk => by have := (hlv k hk).2; omega
  have HI := Lib.hid (insert_end (B := B) (w := w3.drew.alloc (.cells #[str o.text] 9)) (g := w3.drew.heap.size) (own_keep HO2.out (fun k hk => hb4.block k (hlv3 k hk))) (Blk.new w3.drew 9 #[str o.text]) hn (by have := hb4.size; omega))
  have HB4 := Lib.hid hb4
  clear c2' c4' p5' hb4
  go_upto_region 3 with fail
  refine R_begin (fun W => W.cell? ⟨w.heap.size, 2, none⟩ = some (.int .i64 (x.rows.length : Int)) ∧ W.cell? ⟨w.heap.size, 4, none⟩ = some (str o.text) ∧ W.cell? ⟨gp, 5, none⟩ = some v) (fun j => decide (11 ≤ j)) rfl ?_
  refine R_tt 0 13 hS.out ?_
  simp only [List.setIfInBounds_toArray, List.set_cons_zero, List.set_cons_succ]
  refine R_tt 1 14 hS.out ?_
  simp only [List.setIfInBounds_toArray, List.set_cons_zero, List.set_cons_succ]
  refine R_tt 2 15 hS.out ?_
  simp only [List.setIfInBounds_toArray, List.set_cons_zero, List.set_cons_succ]
  refine R_tt 3 16 hS.out ?_
  simp only [List.setIfInBounds_toArray, List.set_cons_zero, List.set_cons_succ]
  refine R_tt 4 17 hS.out ?_
  simp only [List.setIfInBounds_toArray, List.set_cons_zero, List.set_cons_succ]
  refine R_tt 5 18 hS.out ?_
  simp only [List.setIfInBounds_toArray, List.set_cons_zero, List.set_cons_succ]
  refine R_tt 6 19 hS.out ?_
  simp only [List.setIfInBounds_toArray, List.set_cons_zero, List.set_cons_succ]
  refine R_tt 7 20 hS.out ?_
  simp only [List.setIfInBounds_toArray, List.set_cons_zero, List.set_cons_succ]
  refine R_tt 8 21 hS.out ?_
  simp only [List.setIfInBounds_toArray, List.set_cons_zero, List.set_cons_succ]
  refine R_run 9 22 (v := .slice (some ⟨w3.drew.heap.size, 0, none⟩) 1 1) (w' := w3.drew.alloc (.cells #[str o.text] 9)) rfl rfl (by rfl) (by kernel_rfl) (by go_simp) (fun _ => hS4.out) ?_
  simp only [List.setIfInBounds_toArray, List.set_cons_zero, List.set_cons_succ]
  refine R_call 10 23 (w' := w3.drew.alloc (.cells #[str o.text] 9)) rfl rfl (by rfl) (by kernel_rfl) ?_ HI.out ?_
  · go_simp
  rintro e w5 ⟨v2, rfl, hO5, hg5, hk5⟩
  have hP5 := Lib.hid ((HP2.out.drew.alloc (.cells #[str o.text] 9)).grown hg5 (fun e => hgv gp e.symm rfl))
  have hB5 := Lib.hid ((HB2.out.drew.alloc (.cells #[str o.text] 9)).grown hg5 (fun e => by have := (hlv _ e.symm).2; omega))
  have hs3 := hB5.out.lt
  have q2 := hB5.out.cell 2
  have q4 := hB5.out.cell 4
  have q5 := hP5.out.cell 5
  simp only [opCs, List.getElem?_toArray, List.getElem?_cons_succ, List.getElem?_cons_zero, HA.out] at q2 q4 q5
  have hS5 := Lib.hid (show w5.cell? ⟨w.heap.size, 2, none⟩ = some (.int .i64 (x.rows.length : Int)) ∧ w5.cell? ⟨w.heap.size, 4, none⟩ = some (str o.text) ∧ w5.cell? ⟨gp, 5, none⟩ = some v from ⟨q2, q4, q5⟩)
  have hbB5 : Below B w w5 := ((HBB2.out.drew).alloc (show B ≤ w3.heap.size by omega) (.cells #[str o.text] 9)).grown hg5 (by have := HB4.out.size; omega) (fun k hk => (hlv k hk).1)
  have HBB5 := Lib.hid hbB5
  have HTB5 := Lib.hid (((HTB2.out.drew).alloc (.cells #[str o.text] 9)).grown hg5 (fun k hk => .inl (.inr hk)))
  obtain ⟨g2, c5, rfl⟩ := own_form hO5
  have hg2p : g2 ≠ gp := by
    rcases hk5 g2 rfl with h1 | h1
    · exact hgv g2 h1
    · have := HB4.out.size
      omega
  have HO5 := Lib.hid hO5
  clear hg5 hk5 q2 q4 q5 hbB5 hO5
  refine ⟨_, rfl, fun _ => hS5.out, ?_⟩
  simp only [List.setIfInBounds_toArray, List.set_cons_zero, List.set_cons_succ]
  refine R_run 11 24 (v := ptr gp) (w' := w5) rfl rfl (by rfl) (by kernel_rfl) (by go_simp) (fun h => absurd h (by decide)) ?_
  simp only [List.setIfInBounds_toArray, List.set_cons_zero, List.set_cons_succ]
  refine R_run 12 25 (v := .pointer (some ⟨gp, 5, none⟩)) (w' := w5) rfl rfl (by rfl) (by kernel_rfl) (by go_simp) (fun h => absurd h (by decide)) ?_
  simp only [List.setIfInBounds_toArray, List.set_cons_zero, List.set_cons_succ]
  refine R_store 13 (n := .skip) (w' := w5.setCell ⟨gp, 5, none⟩ (.slice (some ⟨g2, 0, none⟩) (x.rows.length + 1) c5)) rfl rfl (by rfl) (by kernel_rfl) ?_ (.inl rfl) (fun h => absurd h (by decide)) ?_
  · have f6 := hP5.out.frozen 5
    have q6 := hP5.out.cell 5
    simp only [List.getElem?_toArray, List.getElem?_cons_succ, List.getElem?_cons_zero] at q6
    go_simp
  refine R_done (by kernel_rfl) ?_ _
  rename_i K9 hK9
  refine hK9 _ _ ?_
  clear hK9
  have hend : DidOk B gp v { x with rows := x.rows ++ [o.text] } w (.returned (.int .i64 0)) (w5.setCell ⟨gp, 5, none⟩ (.slice (some ⟨g2, 0, none⟩) (x.rows.length + 1) c5)) := by
    refine ⟨rfl, ⟨_, hP5.out.set_ 5 _, ?_, hge⟩, HBB5.out.setCell (p := ⟨gp, 5, none⟩) hge _, HTB5.out.setCell (p := ⟨gp, 5, none⟩) (.inl (.inl rfl)) _⟩
    have e1 : (x.rows ++ [o.text]).length = x.rows.length + 1 := by simp
    have e2 : rcs (x.rows ++ [o.text]) = rcs x.rows ++ [str o.text] := by simp only [rcs, List.map_append, List.map_cons, List.map_nil]
    show World.ownsRow _ B _ 1 _ (x.rows ++ [o.text]).length (rcs (x.rows ++ [o.text]))
    rw [e1, e2]
    exact own_keep HO5.out (fun k hk => Below.heap_setCell w5 ⟨gp, 5, none⟩ _ k (fun e => by injection hk with hk; exact hg2p (hk.trans e)))
  clear HO5 HBB5 HTB5 hS5 hP5 hB5 hg2p hS hS4 HI HB4 hs3
  go_wp2_with fail
  go_ret
  exact hend
end
end Go.Proofs.YtclpmkinjjhncaaGreat

/- slices.Clone of strings: the copy is an own row. -/
namespace Go.Proofs.YtclpmkinjjhncaaGreat
open Go.RowKit

theorem clone_own {G : Foot} {w : World} {A : Option Addr} {c : Nat} {rows : List Sp.Bs} (hR : RowsAt G w A rows) (hA : OkAddr A) (hl : rows.length ≤ 1000000) :
    Calls Tryz.prog 171 #[.slice A rows.length c] w fun e w' => ∃ v, e = .returned v ∧ w'.ownsRow w.heap.size 9 1 v rows.length (rcs rows) ∧ Below w.heap.size w w' := by
  obtain ⟨i0, hi, hz0, hz1, hz2⟩ := info_parts str_info
  rcases hA with rfl | ⟨b, o, rfl⟩
  · have h0 : rows = [] := by
      cases rows with
      | nil => rfl
      | cons x l =>
        obtain ⟨b, o, e, _⟩ := hR.2 (by simp)
        cases e
    subst h0
    refine (Tryz.slices_Clone_nil_f171 0 c w).mono ?_
    rintro e w1 ⟨rfl, rfl⟩
    exact ⟨_, rfl, World.ownsRow_nil _ _ _ _, Below.refl _ _⟩
  · have hz23 : ∀ w, (Go.sizeOf 9).run Tryz.prog w = .ok 1 w := fun w => by kernel_rfl
    rcases Nat.eq_zero_or_pos rows.length with h0 | hpos
    · have h0' : rows = [] := List.eq_nil_of_length_eq_zero h0
      subst h0'
      refine (Tryz.slices_Clone_f171 i0 _ 1 16 hi hz0 hz1 hz2 rfl (by decide) hz23 b o 0 c [] w rfl (by unfold maxLen; omega) (by omega) (fun j u hu => by simp at hu) (fun u hu => by simp at hu)).mono ?_
      rintro e w1 ⟨v, rfl, hO, hnn, hb⟩
      exact ⟨v, rfl, hO, hb⟩
    · obtain ⟨b2, o2, e2, _, _, hc⟩ := hR.2 hpos
      injection e2 with e2
      injection e2 with e3 e4
      subst e3 e4
      refine (Tryz.slices_Clone_f171 i0 _ 1 16 hi hz0 hz1 hz2 rfl (by decide) hz23 b o rows.length c (rcs rows) w (by simp) (by unfold maxLen; omega) (by omega) hc (fun u hu => by
        obtain ⟨x, _, rfl⟩ := List.mem_map.1 hu; rfl)).mono ?_
      rintro e w1 ⟨v, rfl, hO, hnn, hb⟩
      exact ⟨v, rfl, hO, hb⟩
end Go.Proofs.YtclpmkinjjhncaaGreat

/- Package op: Apply of fill and put. -/
namespace Go.Proofs.YtclpmkinjjhncaaGreat
open Go.RowKit

set_option maxRecDepth 100000 in
theorem page_load {W : World} {g : Nat} {p : Sp.Pg} {A : Option Addr} {c : Nat} (h : Blk W g 50 (pgCs p A c)) :
    (loadVar 50 ⟨g, 0, none⟩).run Tryz.prog W = .ok (pgV p A c) W :=
  run_loadVar_row W g _ _ _ _ _ h Tryz.underlying50 rfl rfl
theorem own_low {w : World} {b b' n k : Nat} {e : TypeId} {v : Value} {xs : List Value} (h : w.ownsRow b e k v n xs) (hb : b' ≤ b) : w.ownsRow b' e k v n xs := by
  obtain ⟨hl, h1 | ⟨g, cap, cur, h1, hg, h2⟩⟩ := h
  · exact ⟨hl, .inl h1⟩
  · exact ⟨hl, .inr ⟨g, cap, cur, h1, Nat.le_trans hb hg, h2⟩⟩
theorem run_lookup_val {P : Program} {w : World} {mty kt et : TypeId} {d : TypeDesc} {r clock i : Nat} {es : Array MapEntry} {k v : Value} (hm : P.underlying mty = some (.map kt et)) (hk : P.underlying kt = some d) (hkey : MapKept.IsKey d k) (hb : w.heap[r]? = some (.map es clock)) (hf : Instr.findNow d k es.toList 0 = some (some (i, v))) :
    (Instr.lookup mty (.map (some r)) k false).run P w = .ok v w := by
  have hc : ∀ em, (Instr.checkKey em 10000 kt k).run P w = .ok () w := fun em => MapKept.run_checkKey hk hkey em 9999
  simp [Instr.lookup, run_underlying hm, MapKept.run_getObj_map hb, hc, MapKept.run_findKey hk hf, Result.andThen]
def pgZ : Sp.Pg := ⟨0, 0, 0, 0, 0, []⟩
/-- What Apply answers: no place, or a page. -/
def ApAns (res : Option Sp.Pg) (lsn : Nat) (w : World) (e : Ending) (w' : World) : Prop :=
  (res = none ∧ e = .returned (.tuple #[zeroPgV, .int .i64 3])) ∨
    ∃ (y : Sp.Pg) (A : Option Addr) (c : Nat), res = some y ∧ e = .returned (.tuple #[pgV { y with lsn := lsn } A c, .int .i64 0]) ∧ w'.ownsRow w.heap.size 9 1 (.slice A y.rows.length c) y.rows.length (rcs y.rows)
set_option maxRecDepth 100000 in
set_option maxHeartbeats 8000000 in
theorem op_apply {w : World} {G Gx : Foot} {x : Sp.Pg} {o : Sp.Op} {A A2 : Option Addr} {c c2 lsn f : Nat} {res : Option Sp.Pg}
    (hmay : Sp.opMay o = true) (ho : o.Ok) (hS : o.Short) (hR : RowsAt G w A o.rows) (hA : OkAddr A) (hX : RowsAt Gx w A2 x.rows) (hA2 : OkAddr A2) (hxm : mayB x = true) (hid : x.id = o.page)
    (hkf : (o.kind = 2 ∧ f = 234) ∨ (o.kind = 6 ∧ f = 240))
    (HC : ∀ (B gp : Nat) (w1 : World) (v : Value), PgIn B w1 gp x v → RowsAt G w1 A o.rows → Calls Tryz.prog f #[ptr gp, opV o A c] w1 fun e w' => (res = none ∧ e = .returned (.int .i64 3) ∧ Below w1.heap.size w1 w') ∨ (∃ y, res = some y ∧ DidOk B gp v y w1 e w'))
    (hres : ∀ y, res = some y → mayB { y with lsn := lsn } = true) :
    Calls Tryz.prog 108 #[pgV x A2 c2, opV o A c, .int .u64 lsn] w fun e w' => ApAns res lsn w e w' ∧ Below w.heap.size w w' := by
  have hxmay := (mayB_iff x).1 hxm
  have hnx : x.rows.length ≤ 1000000 := by have := hxmay.2.2.2.2; omega
  have htx : Sp.total x.rows ≤ 1000000 := by have := hxmay.2.2.2.2; omega
  have hkd : o.kind ≠ 1 := by rcases hkf with ⟨h, -⟩ | ⟨h, -⟩ <;> omega
  have h3 := ((Blk.new w 50 (pgCs x A2 c2)).alloc (.cells (opCs o A c) 28)).alloc (.cells (pgCs pgZ none 0) 50)
  have h4 := (Blk.new (w.alloc (.cells (pgCs x A2 c2) 50)) 28 (opCs o A c)).alloc (.cells (pgCs pgZ none 0) 50)
  have h6 := Blk.new ((w.alloc (.cells (pgCs x A2 c2) 50)).alloc (.cells (opCs o A c) 28)) 50 (pgCs pgZ none 0)
  have z1 : (w.alloc (.cells (pgCs x A2 c2) 50)).heap.size = w.heap.size + 1 := by simp
  have z2 : ((w.alloc (.cells (pgCs x A2 c2) 50)).alloc (.cells (opCs o A c) 28)).heap.size = w.heap.size + 1 + 1 := by simp
  have hb1 := (((Below.refl w.heap.size w).alloc (Nat.le_refl _) (.cells (pgCs x A2 c2) 50)).alloc (by simp) (.cells (opCs o A c) 28)).alloc (by simp; omega) (.cells (pgCs pgZ none 0) 50)
  rw [z1] at h4
  rw [z2] at h6
  clear z1 z2
  replace hid := Lib.hid hid
  replace hkf := Lib.hid hkf
  replace hres := Lib.hid hres
  replace hmay := Lib.hid hmay
  replace hkd := Lib.hid hkd
  replace hxm := Lib.hid hxm
  go_enter Tryz.func108, Tryz.ntmps108
  go_upto_region 1 with fail
  change Code.wp _ _ _ _ (((w.alloc (.cells (pgCs x A2 c2) 50)).alloc (.cells (opCs o A c) 28)).alloc (.cells (pgCs pgZ none 0) 50))
  generalize ((w.alloc (.cells (pgCs x A2 c2) 50)).alloc (.cells (opCs o A c) 28)).alloc (.cells (pgCs pgZ none 0) 50) = w1 at h3 h4 h6 hb1 ⊢
  have HLO := Lib.hid (op_load h4)
  have HM := Lib.hid (op_may (c := c) (Reads.below hR hb1) hA ho hS)
  rw [hmay.out] at HM
  have H3 := Lib.hid h3
  have H4 := Lib.hid h4
  have H6 := Lib.hid h6
  have HB1 := Lib.hid hb1
  clear h3 h4 h6 hb1
  go_wp2_with (first
    | ((with_reducible refine wpList_run (v := opV o A c) (w' := w1) 9 rfl rfl ?_ ?_); exact run_op_load _ _ ⟨w.heap.size + 1, 0, none⟩ rfl rfl HLO.out; simp only [List.setIfInBounds_toArray, List.set_cons_zero, List.set_cons_succ]))
  refine HM.out.mono ?_
  rintro e w2 ⟨rfl, hb2⟩
  have H32 := Lib.hid (H3.out.below hb2 H3.out.lt)
  have H42 := Lib.hid (H4.out.below hb2 H4.out.lt)
  have H62 := Lib.hid (H6.out.below hb2 H6.out.lt)
  have HB2 := Lib.hid (HB1.out.trans (hb2.mono HB1.out.size))
  clear HM HLO H3 H4 H6 HB1 hb2
  have HPM := Lib.hid (page_mayT (c := c2) (Reads.below hX HB2.out) (by omega) (by omega))
  rw [hxm.out] at HPM
  have o0 := H42.out.cell 0
  simp only [opCs, List.getElem?_toArray, List.getElem?_cons_zero] at o0
  have q1 : ((o.kind : Int) != 1) = true := by have := hkd.out; simp; omega
  have p0 := H32.out.cell 0
  have p1 := H32.out.cell 1
  have p2 := H32.out.cell 2
  have p3 := H32.out.cell 3
  have p4 := H32.out.cell 4
  have p5 := H32.out.cell 5
  simp only [List.getElem?_toArray, List.getElem?_cons_succ, List.getElem?_cons_zero] at p0 p1 p2 p3 p4 p5
  go_wp2_with fail
  refine HPM.out.mono ?_
  rintro e w3 ⟨rfl, hb3⟩
  have H33 := Lib.hid (H32.out.below hb3 H32.out.lt)
  have H43 := Lib.hid (H42.out.below hb3 H42.out.lt)
  have H63 := Lib.hid (H62.out.below hb3 H62.out.lt)
  have HB3 := Lib.hid (HB2.out.trans (hb3.mono HB2.out.size))
  clear HPM H32 H42 H62 HB2 hb3 p0 p1 p2 p3 p4 p5 o0
  have p2 := H33.out.cell 2
  have p5 := H33.out.cell 5
  have f5 := H33.out.frozen 5
  have o1 := H43.out.cell 1
  simp only [opCs, List.getElem?_toArray, List.getElem?_cons_succ, List.getElem?_cons_zero] at p2 p5 o1
  have q2 : ((x.id : Int) != (o.page : Int)) = false := by have := hid.out; simp; omega
  have HCL := Lib.hid (clone_own (c := c2) (Reads.below hX HB3.out) hA2 hnx)
  go_wp2_with fail
  refine HCL.out.mono ?_
  rintro e w4 ⟨v, rfl, hO, hb4⟩
  obtain ⟨A4, c4, rfl, hA4, -⟩ := own_rows hO
  have H34 := Lib.hid (H33.out.below hb4 H33.out.lt)
  have H44 := Lib.hid (H43.out.below hb4 H43.out.lt)
  have H64 := Lib.hid (H63.out.below hb4 H63.out.lt)
  have HB4 := Lib.hid (HB3.out.trans (hb4.mono HB3.out.size))
  have HO4 := Lib.hid (own_low hO HB3.out.size)
  have hw3 := HB3.out.size
  have hl3 := H33.out.lt
  have ho3 : ∀ k, (Value.slice A4 x.rows.length c4).ownBlock = some k → w3.heap.size ≤ k := fun k hk => (hO.lt k hk).1
  clear HCL H33 H43 H63 HB3 hb4 hO p2 p5 f5 o1
  have p5 := H34.out.cell 5
  have f5 := H34.out.frozen 5
  simp only [List.getElem?_toArray, List.getElem?_cons_succ, List.getElem?_cons_zero] at p5
  go_upto_region 4 with fail
  have hP5 : Blk (w4.setCell ⟨w.heap.size, 5, none⟩ (.slice A4 x.rows.length c4)) w.heap.size 50 #[.int .u8 x.kind, .int .u8 x.level, .int .u32 x.id, .int .u64 x.lsn, .int .u32 x.next, .slice A4 x.rows.length c4] := H34.out.set_ 5 _
  have hO5 := own_keep HO4.out (w' := w4.setCell ⟨w.heap.size, 5, none⟩ (.slice A4 x.rows.length c4)) (fun k hk => Below.heap_setCell w4 ⟨w.heap.size, 5, none⟩ _ k (fun e => by have := ho3 k hk; have e : k = w.heap.size := e; omega))
  have H45 := Lib.hid (H44.out.far (p := ⟨w.heap.size, 5, none⟩) (show w.heap.size + 1 ≠ w.heap.size by omega) (.slice A4 x.rows.length c4))
  have H65 := Lib.hid (H64.out.far (p := ⟨w.heap.size, 5, none⟩) (show w.heap.size + 1 + 1 ≠ w.heap.size by omega) (.slice A4 x.rows.length c4))
  have HB5 := Lib.hid (HB4.out.setCell (p := ⟨w.heap.size, 5, none⟩) (Nat.le_refl _) (.slice A4 x.rows.length c4))
  have HIN := Lib.hid (show PgIn w.heap.size (w4.setCell ⟨w.heap.size, 5, none⟩ (.slice A4 x.rows.length c4)) w.heap.size x (.slice A4 x.rows.length c4) from ⟨hP5, hO5, Nat.le_refl _⟩)
  clear hP5 hO5 p5 f5 H34 H44 H64 HB4 HO4 ho3 hl3 hw3
  generalize w4.setCell ⟨w.heap.size, 5, none⟩ (.slice A4 x.rows.length c4) = w5 at H45 H65 HB5 HIN ⊢
  have hS5 := Lib.hid (show Blk w5.drew (w.heap.size + 1) 28 (opCs o A c) from H45.out.drew)
  have HDO := Lib.hid (op_does w5.drew)
  go_cut [8] from 34 to 39 (fun u wx => (res = none ∧ u = .int .i64 3 ∧ Blk wx (w.heap.size + 1 + 1) 50 (pgCs pgZ none 0) ∧ Below w.heap.size w wx) ∨ (∃ y v, res = some y ∧ u = .int .i64 0 ∧ PgIn w.heap.size wx w.heap.size y v ∧ Blk wx (w.heap.size + 1 + 1) 50 (pgCs pgZ none 0) ∧ Below w.heap.size w wx))
  case first =>
    refine R_begin (fun W => Blk W (w.heap.size + 1) 28 (opCs o A c)) (fun _ => false) rfl ?_
    refine R_tk 1 35 hS5.out ?_
    simp only [List.setIfInBounds_toArray, List.set_cons_zero, List.set_cons_succ]
    refine R_take 2 36 (v := .int .u8 o.kind) rfl rfl (by rfl) (by kernel_rfl) (fun _ _ _ h => h) hS5.out ?_ ?_
    · intro W hSw
      have k0 := hSw.cell 0
      simp only [opCs, List.getElem?_toArray, List.getElem?_cons_zero] at k0
      go_simp
    simp only [List.setIfInBounds_toArray, List.set_cons_zero, List.set_cons_succ]
    refine R_take 4 38 (v := opV o A c) rfl rfl (by rfl) (by kernel_rfl) (fun _ _ _ h => h) hS5.out (fun W hSw => run_op_load _ _ ⟨w.heap.size + 1, 0, none⟩ rfl rfl (op_load hSw)) ?_
    simp only [List.setIfInBounds_toArray, List.set_cons_zero, List.set_cons_succ]
    refine R_call 0 34 (w' := w5.drew) rfl rfl (by rfl) (by kernel_rfl) ?_ HDO.out ?_
    · go_simp
    rintro e w6 ⟨mb, g3, g4, g8, rfl, hD, hb6⟩
    have hS6 := Lib.hid (H45.out.drew.below hb6 H45.out.drew.lt)
    refine ⟨_, rfl, fun _ => hS6.out, ?_⟩
    simp only [List.setIfInBounds_toArray, List.set_cons_zero, List.set_cons_succ]
    have hm := hD.1
    have H66 := Lib.hid (H65.out.drew.below hb6 H65.out.drew.lt)
    have hin6 := HIN.out.below ((Below.refl w5.heap.size w5).drew.trans hb6)
    have hbw6 := HB5.out.drew.trans (hb6.mono HB5.out.drew.size)
    have HC' := HC w.heap.size w.heap.size
    have n1 : ∀ g (t : TypeId) (cs : Array Value), g ≠ w.heap.size → t ≠ 9 → Blk w6 g t cs → ¬ didF w.heap.size (.slice A4 x.rows.length c4) g := fun g t cs hg ht hb h => h.elim hg (fun h => own_ne hin6.own hb ht.symm h)
    have nO := n1 _ _ _ (show w.heap.size + 1 ≠ w.heap.size by omega) (by decide) hS6.out
    have nP := n1 _ _ _ (show w.heap.size + 1 + 1 ≠ w.heap.size by omega) (by decide) H66.out
    clear n1
    rcases hkf.out with ⟨hk, rfl⟩ | ⟨hk, rfl⟩
    · have hl : (Instr.lookup 262 (.map (some mb)) (.int .u8 o.kind) false).run Tryz.prog w6 = .ok (.func (.func 234) #[] #[]) w6 := by
        rw [hk]
        exact run_lookup_val Tryz.underlying262 Tryz.underlying5 (by simp [MapKept.IsKey]) hm rfl
      replace hk := Lib.hid hk
      clear hm
      refine R_run 3 37 (v := .func (.func 234) #[] #[]) (w' := w6) rfl rfl (by rfl) (by kernel_rfl) (by go_simp) (fun _ => hS6.out) ?_
      simp only [List.setIfInBounds_toArray, List.set_cons_zero, List.set_cons_succ]
      clear hl
      refine R_call 5 39 (w' := w6) rfl rfl (by rfl) (by kernel_rfl) ?_ (HC' w6 _ hin6 (Reads.below hR hbw6)) ?_
      · go_simp
      intro e w7 hpost
      have hpost2 : ∃ er : Nat, e = .returned (.int .i64 er) ∧ ((res = none ∧ er = 3 ∧ Blk w7 (w.heap.size + 1 + 1) 50 (pgCs pgZ none 0) ∧ Below w.heap.size w w7) ∨ (∃ y v, res = some y ∧ er = 0 ∧ PgIn w.heap.size w7 w.heap.size y v ∧ Blk w7 (w.heap.size + 1 + 1) 50 (pgCs pgZ none 0) ∧ Below w.heap.size w w7)) ∧ Blk w7 (w.heap.size + 1) 28 (opCs o A c) := by
        rcases hpost with ⟨h1, rfl, hb7⟩ | ⟨y, h1, rfl, ⟨v, hp⟩, hb7, ht7⟩
        · exact ⟨3, rfl, .inl ⟨h1, rfl, H66.out.below hb7 H66.out.lt, hbw6.trans (hb7.mono hbw6.size)⟩, hS6.out.below hb7 hS6.out.lt⟩
        · exact ⟨0, rfl, .inr ⟨y, v, h1, rfl, hp, H66.out.turns ht7 nP, hbw6.trans hb7⟩, hS6.out.turns ht7 nO⟩
      obtain ⟨er, rfl, hp3, hS7⟩ := hpost2
      have HP3 := Lib.hid hp3
      have HS7 := Lib.hid hS7
      clear hpost hp3 hS7
      refine ⟨_, rfl, fun _ => HS7.out, ?_⟩
      simp only [List.setIfInBounds_toArray, List.set_cons_zero, List.set_cons_succ]
      refine R_tk 6 8 HS7.out ?_
      simp only [List.setIfInBounds_toArray, List.set_cons_zero, List.set_cons_succ]
      refine R_done (by kernel_rfl) ?_ _
      rename_i J9 K9 hJ9 hK9
      refine hK9 _ _ ?_
      clear hK9
      go_meet
      case rel =>
        rcases HP3.out with ⟨h1, rfl, h2, h3⟩ | ⟨y, v, h1, rfl, h2⟩
        · exact .inl ⟨h1, rfl, h2, h3⟩
        · exact .inr ⟨y, v, h1, rfl, h2⟩
    · have hl : (Instr.lookup 262 (.map (some mb)) (.int .u8 o.kind) false).run Tryz.prog w6 = .ok (.func (.func 240) #[] #[]) w6 := by
        rw [hk]
        exact run_lookup_val Tryz.underlying262 Tryz.underlying5 (by simp [MapKept.IsKey]) hm rfl
      replace hk := Lib.hid hk
      clear hm
      refine R_run 3 37 (v := .func (.func 240) #[] #[]) (w' := w6) rfl rfl (by rfl) (by kernel_rfl) (by go_simp) (fun _ => hS6.out) ?_
      simp only [List.setIfInBounds_toArray, List.set_cons_zero, List.set_cons_succ]
      clear hl
      refine R_call 5 39 (w' := w6) rfl rfl (by rfl) (by kernel_rfl) ?_ (HC' w6 _ hin6 (Reads.below hR hbw6)) ?_
      · go_simp
      intro e w7 hpost
      have hpost2 : ∃ er : Nat, e = .returned (.int .i64 er) ∧ ((res = none ∧ er = 3 ∧ Blk w7 (w.heap.size + 1 + 1) 50 (pgCs pgZ none 0) ∧ Below w.heap.size w w7) ∨ (∃ y v, res = some y ∧ er = 0 ∧ PgIn w.heap.size w7 w.heap.size y v ∧ Blk w7 (w.heap.size + 1 + 1) 50 (pgCs pgZ none 0) ∧ Below w.heap.size w w7)) ∧ Blk w7 (w.heap.size + 1) 28 (opCs o A c) := by
        rcases hpost with ⟨h1, rfl, hb7⟩ | ⟨y, h1, rfl, ⟨v, hp⟩, hb7, ht7⟩
        · exact ⟨3, rfl, .inl ⟨h1, rfl, H66.out.below hb7 H66.out.lt, hbw6.trans (hb7.mono hbw6.size)⟩, hS6.out.below hb7 hS6.out.lt⟩
        · exact ⟨0, rfl, .inr ⟨y, v, h1, rfl, hp, H66.out.turns ht7 nP, hbw6.trans hb7⟩, hS6.out.turns ht7 nO⟩
      obtain ⟨er, rfl, hp3, hS7⟩ := hpost2
      have HP3 := Lib.hid hp3
      have HS7 := Lib.hid hS7
      clear hpost hp3 hS7
      refine ⟨_, rfl, fun _ => HS7.out, ?_⟩
      simp only [List.setIfInBounds_toArray, List.set_cons_zero, List.set_cons_succ]
      refine R_tk 6 8 HS7.out ?_
      simp only [List.setIfInBounds_toArray, List.set_cons_zero, List.set_cons_succ]
      refine R_done (by kernel_rfl) ?_ _
      rename_i J9 K9 hJ9 hK9
      refine hK9 _ _ ?_
      clear hK9
      go_meet
      case rel =>
        rcases HP3.out with ⟨h1, rfl, h2, h3⟩ | ⟨y, v, h1, rfl, h2⟩
        · exact .inl ⟨h1, rfl, h2, h3⟩
        · exact .inr ⟨y, v, h1, rfl, h2⟩
  case rest =>
  rename_i K8 hK8
  refine hK8 _ _ ?_
  clear hK8
  rcases hcut with ⟨hr, rfl, h6, hb⟩ | ⟨y, v, hr, rfl, hp, h6, hb⟩
  · have hz0 : ∀ W, (Instr.build 50 #[]).run Tryz.prog W = .ok zeroPgV W := fun W => by kernel_rfl
    have HST := Lib.hid (page_store (p := pgZ) (A := none) (c := 0) h6)
    have hb9 : Below w.heap.size w (wc.setRow (w.heap.size + 1 + 1) (pgCs pgZ none 0)) := below_setRow hb (by omega) _
    have h69 := h6.setRow (pgCs pgZ none 0)
    have hres := Lib.hid hr
    clear hr h6 hb
    go_wp2_with (first
      | ((with_reducible refine wpList_skip (w' := wc.setRow (w.heap.size + 1 + 1) (pgCs pgZ none 0)) rfl rfl ?_ ?_); exact run_op_store _ _ _ ⟨w.heap.size + 1 + 1, 0, none⟩ (pgV pgZ none 0) rfl rfl rfl HST.out))
    generalize World.setRow _ _ _ = w9 at hb9 h69 ⊢
    have z0 := h69.cell 0
    have z1 := h69.cell 1
    have z2 := h69.cell 2
    have z3 := h69.cell 3
    have z4 := h69.cell 4
    have z5 := h69.cell 5
    simp only [pgZ, List.getElem?_toArray, List.getElem?_cons_succ, List.getElem?_cons_zero] at z0 z1 z2 z3 z4 z5
    exact bodyPost_ret (v := .tuple #[zeroPgV, .int .i64 3]) (by rw [results_cell_tmp rfl]; go_simp; first | done | rfl) rfl ⟨.inl ⟨hres.out, rfl⟩, hb9⟩
  · obtain ⟨A5, c5, rfl, hA5, hR5⟩ := own_rows hp.own
    have hP8 : Blk (wc.setCell ⟨w.heap.size, 3, none⟩ (.int .u64 lsn)) w.heap.size 50 (pgCs { y with lsn := lsn } A5 c5) := hp.blk.set_ 3 _
    have hne5 : ∀ k, (Value.slice A5 y.rows.length c5).ownBlock = some k → k ≠ w.heap.size := fun k hk e => own_ne hp.own hp.blk (by decide) (e ▸ hk)
    have hO8 := own_keep hp.own (w' := wc.setCell ⟨w.heap.size, 3, none⟩ (.int .u64 lsn)) (fun k hk => Below.heap_setCell wc ⟨w.heap.size, 3, none⟩ _ k (hne5 k hk))
    have hR8 : RowsAt (fun _ => True) (wc.setCell ⟨w.heap.size, 3, none⟩ (.int .u64 lsn)) A5 ({ y with lsn := lsn } : Sp.Pg).rows := by
      obtain ⟨A6, c6, e6, -, h6⟩ := own_rows hO8
      injection e6 with e6
      subst e6
      exact h6.mono (fun _ _ => trivial)
    have h68 := h6.far (p := ⟨w.heap.size, 3, none⟩) (show w.heap.size + 1 + 1 ≠ w.heap.size by omega) (.int .u64 lsn)
    have hb8 := hb.setCell (p := ⟨w.heap.size, 3, none⟩) (Nat.le_refl _) (.int .u64 lsn)
    have hmy := hres.out y hr
    have hmb := (mayB_iff _).1 hmy
    have HMY := Lib.hid hmy
    have p3 := hp.blk.cell 3
    have f3 := hp.blk.frozen 3
    simp only [List.getElem?_toArray, List.getElem?_cons_succ, List.getElem?_cons_zero] at p3
    have hlen : y.rows.length ≤ 1000000 := by have := hmb.2.2.2.2; simp only at this; omega
    have htot : Sp.total y.rows ≤ 1000000 := by have := hmb.2.2.2.2; simp only at this; omega
    have HR := Lib.hid hr
    replace hP8 := Lib.hid hP8
    replace hO8 := Lib.hid hO8
    replace hR8 := Lib.hid hR8
    replace h68 := Lib.hid h68
    replace hb8 := Lib.hid hb8
    clear hp hR5 h6 hb hr hmy hmb
    go_upto_region 8 with fail
    clear p3 f3
    generalize wc.setCell ⟨w.heap.size, 3, none⟩ (.int .u64 lsn) = w8 at hP8 hO8 hR8 h68 hb8 ⊢
    have HLP := Lib.hid (page_load hP8.out)
    have HPM := Lib.hid (page_mayT (c := c5) hR8.out (by simp only; omega) (by simp only; omega))
    rw [HMY.out] at HPM
    go_wp2_with (first
      | ((with_reducible refine wpList_run (v := pgV { y with lsn := lsn } A5 c5) (w' := w8) 46 rfl rfl ?_ ?_); exact run_op_load _ _ ⟨w.heap.size, 0, none⟩ rfl rfl HLP.out; simp only [List.setIfInBounds_toArray, List.set_cons_zero, List.set_cons_succ]))
    refine HPM.out.mono ?_
    rintro e w9 ⟨rfl, hb9⟩
    have hP9 := hP8.out.below hb9 hP8.out.lt
    have hO9 := own_keep hO8.out (fun k hk => hb9.block k (hO8.out.lt k hk).2)
    have h69 := h68.out.below hb9 h68.out.lt
    have hbw9 := hb8.out.trans (hb9.mono hb8.out.size)
    have HL9 := Lib.hid (page_load hP9)
    have HS9 := Lib.hid (page_store (p := { y with lsn := lsn }) (A := A5) (c := c5) h69)
    have h610 := h69.setRow (pgCs { y with lsn := lsn } A5 c5)
    have hO10 := own_keep hO9 (w' := w9.setRow (w.heap.size + 1 + 1) (pgCs { y with lsn := lsn } A5 c5)) (fun k hk => heap_setRow_other _ _ _ _ (fun e => own_ne hO9 h69 (by decide) (e ▸ hk)))
    have hb10 : Below w.heap.size w (w9.setRow (w.heap.size + 1 + 1) (pgCs { y with lsn := lsn } A5 c5)) := below_setRow hbw9 (by omega) _
    replace h610 := Lib.hid h610
    replace hO10 := Lib.hid hO10
    replace hb10 := Lib.hid hb10
    clear HPM HLP hP8 hO8 hR8 h68 hb8 hb9 hP9 hO9 h69 hbw9
    go_wp2_with (first
      | ((with_reducible refine wpList_run (v := pgV { y with lsn := lsn } A5 c5) (w' := w9) 50 rfl rfl ?_ ?_); exact run_op_load _ _ ⟨w.heap.size, 0, none⟩ rfl rfl HL9.out; simp only [List.setIfInBounds_toArray, List.set_cons_zero, List.set_cons_succ])
      | ((with_reducible refine wpList_skip (w' := w9.setRow (w.heap.size + 1 + 1) (pgCs { y with lsn := lsn } A5 c5)) rfl rfl ?_ ?_); exact run_op_store _ _ _ ⟨w.heap.size + 1 + 1, 0, none⟩ (pgV { y with lsn := lsn } A5 c5) rfl rfl rfl HS9.out))
    generalize World.setRow _ _ _ = w10 at h610 hO10 hb10 ⊢
    have z0 := h610.out.cell 0
    have z1 := h610.out.cell 1
    have z2 := h610.out.cell 2
    have z3 := h610.out.cell 3
    have z4 := h610.out.cell 4
    have z5 := h610.out.cell 5
    simp only [List.getElem?_toArray, List.getElem?_cons_succ, List.getElem?_cons_zero] at z0 z1 z2 z3 z4 z5
    exact bodyPost_ret (v := .tuple #[pgV { y with lsn := lsn } A5 c5, .int .i64 0]) (by rw [results_cell_tmp rfl]; go_simp) rfl ⟨.inr ⟨y, A5, c5, HR.out, rfl, hO10.out⟩, hb10.out⟩
end Go.Proofs.YtclpmkinjjhncaaGreat

/- Package op: Redo of ops of which one is on the page. -/
namespace Go.Proofs.YtclpmkinjjhncaaGreat
open Go.RowKit

/-- What Redo answers: no place (the page as it was), or a page. -/
def ReAns (x : Sp.Pg) (A2 : Option Addr) (c2 : Nat) (res : Option Sp.Pg) (lsn : Nat) (w : World) (e : Ending) (w' : World) : Prop :=
  (res = none ∧ e = .returned (.tuple #[pgV x A2 c2, .int .i64 3])) ∨
    ∃ (y : Sp.Pg) (A : Option Addr) (c : Nat), res = some y ∧ e = .returned (.tuple #[pgV { y with lsn := lsn } A c, .int .i64 0]) ∧ w'.ownsRow w.heap.size 9 1 (.slice A y.rows.length c) y.rows.length (rcs y.rows)
/-- The page under way. -/
def ReAt (B g : Nat) (x : Sp.Pg) (A2 : Option Addr) (c2 : Nat) (res : Option Sp.Pg) (lsn : Nat) (past : Bool) (w : World) : Prop :=
  (past = false ∧ Blk w g 50 (pgCs x A2 c2)) ∨ (past = true ∧ ∃ (y : Sp.Pg) (A : Option Addr) (c : Nat), res = some y ∧ Blk w g 50 (pgCs { y with lsn := lsn } A c) ∧ w.ownsRow B 9 1 (.slice A y.rows.length c) y.rows.length (rcs y.rows))
theorem ReAt.below {B g : Nat} {x : Sp.Pg} {A2 : Option Addr} {c2 : Nat} {res : Option Sp.Pg} {lsn : Nat} {past : Bool} {w w' : World} (h : ReAt B g x A2 c2 res lsn past w) (hb : Below w.heap.size w w') : ReAt B g x A2 c2 res lsn past w' := by
  rcases h with ⟨h1, h2⟩ | ⟨h1, y, A, c, h2, h3, h4⟩
  · exact .inl ⟨h1, h2.below hb h2.lt⟩
  · exact .inr ⟨h1, y, A, c, h2, h3.below hb h3.lt, own_keep h4 (fun k hk => hb.block k (h4.lt k hk).2)⟩
set_option maxRecDepth 100000 in
set_option maxHeartbeats 8000000 in
theorem op_redo {w : World} {G Gx : Foot} {x : Sp.Pg} {A2 L : Option Addr} {c2 cl lsn f k : Nat} {l : List Sp.Op} {res : Option Sp.Pg}
    (hL : OpsAt G w L l) (hok : ∀ o ∈ l, o.Ok ∧ o.Short) (hn : l.length ≤ 1000000) (hk : k < l.length) (hone : ∀ j (hj : j < l.length), j ≠ k → l[j].page ≠ x.id) (hmay : Sp.opMay l[k] = true) (hX : RowsAt Gx w A2 x.rows) (hA2 : OkAddr A2) (hxm : mayB x = true) (hid : x.id = l[k].page) (hlsn : x.lsn < lsn)
    (hkf : (l[k].kind = 2 ∧ f = 234) ∨ (l[k].kind = 6 ∧ f = 240))
    (HC : ∀ (A : Option Addr) (c B gp : Nat) (w1 : World) (v : Value), PgIn B w1 gp x v → RowsAt G w1 A l[k].rows → Calls Tryz.prog f #[ptr gp, opV l[k] A c] w1 fun e w' => (res = none ∧ e = .returned (.int .i64 3) ∧ Below w1.heap.size w1 w') ∨ (∃ y, res = some y ∧ DidOk B gp v y w1 e w'))
    (hres : ∀ y, res = some y → mayB { y with lsn := lsn } = true) :
    Calls Tryz.prog 42 #[pgV x A2 c2, .int .u64 lsn, .slice L l.length cl] w fun e w' => ReAns x A2 c2 res lsn w e w' ∧ Below w.heap.size w w' := by
  have h3 := (Blk.new w 50 (pgCs x A2 c2)).alloc (.cells (pgCs pgZ none 0) 50)
  have h6 := Blk.new (w.alloc (.cells (pgCs x A2 c2) 50)) 50 (pgCs pgZ none 0)
  have z1 : (w.alloc (.cells (pgCs x A2 c2) 50)).heap.size = w.heap.size + 1 := by simp
  have hb1 := ((Below.refl w.heap.size w).alloc (Nat.le_refl _) (.cells (pgCs x A2 c2) 50)).alloc (by simp) (.cells (pgCs pgZ none 0) 50)
  rw [z1] at h6
  clear z1
  replace hid := Lib.hid hid
  replace hkf := Lib.hid hkf
  replace hres := Lib.hid hres
  replace hmay := Lib.hid hmay
  replace hxm := Lib.hid hxm
  replace hone := Lib.hid hone
  have d1 : decide (lsn ≤ x.lsn) = false := by simp; omega
  go_enter Tryz.func42, Tryz.ntmps42
  go_upto_region 1 with fail
  change Code.wp _ _ _ _ ((w.alloc (.cells (pgCs x A2 c2) 50)).alloc (.cells (pgCs pgZ none 0) 50))
  generalize (w.alloc (.cells (pgCs x A2 c2) 50)).alloc (.cells (pgCs pgZ none 0) 50) = w1 at h3 h6 hb1 ⊢
  have p3 := h3.cell 3
  simp only [List.getElem?_toArray, List.getElem?_cons_succ, List.getElem?_cons_zero] at p3
  have hl6 := h6.lt
  have HLD := Lib.hid (page_load h3)
  have hz : Blk (w1.alloc (.cells (pgCs pgZ none 0) 50)) w1.heap.size 50 (pgCs pgZ none 0) := Blk.new _ _ _
  have HST := Lib.hid (page_store (p := x) (A := A2) (c := c2) hz)
  have hb12 : Below w1.heap.size w1 ((w1.alloc (.cells (pgCs pgZ none 0) 50)).setRow w1.heap.size (pgCs x A2 c2)) := below_setRow ((Below.refl _ _).alloc (Nat.le_refl _) _) (Nat.le_refl _) _
  have h8 := Lib.hid (hz.setRow (pgCs x A2 c2))
  have h32 := Lib.hid (h3.below hb12 h3.lt)
  have h62 := Lib.hid (h6.below hb12 h6.lt)
  have hb2 := Lib.hid (hb1.trans (hb12.mono hb1.size))
  clear h3 h6 hb1 hz hb12
  go_upto_region 4 with (first
    | ((with_reducible refine wpList_run (v := pgV x A2 c2) (w' := w1) 17 rfl rfl ?_ ?_); exact run_op_load _ _ ⟨w.heap.size, 0, none⟩ rfl rfl HLD.out; simp only [List.setIfInBounds_toArray, List.set_cons_zero, List.set_cons_succ])
    | ((with_reducible refine wpList_skip (w' := (w1.alloc (.cells (pgCs pgZ none 0) 50)).setRow w1.heap.size (pgCs x A2 c2)) rfl rfl ?_ ?_); exact run_op_store _ _ _ ⟨w1.heap.size, 0, none⟩ (pgV x A2 c2) rfl rfl rfl HST.out))
  clear HST HLD p3
  generalize (w1.alloc (.cells (pgCs pgZ none 0) 50)).setRow w1.heap.size (pgCs x A2 c2) = w2 at h8 h32 h62 hb2 ⊢
  obtain ⟨g8, hg8⟩ : ∃ g, g = w1.heap.size := ⟨_, rfl⟩
  rw [← hg8] at h8 hl6
  rw [← hg8]
  clear hg8
  go_wp2_with fail
  go_loopw [20] (fun v20 wr => ∃ i : Nat, i ≤ l.length ∧ v20 = .int .i64 i ∧ Blk wr w.heap.size 50 (pgCs x A2 c2) ∧ Blk wr (w.heap.size + 1) 50 (pgCs pgZ none 0) ∧ ReAt w.heap.size g8 x A2 c2 res lsn (decide (k < i)) wr ∧ Below w.heap.size w wr) (fun v20 _ => l.length - (intOf v20).toNat)
  case atStart => exact ⟨0, by omega, rfl, h32.out, h62.out, .inl ⟨by simp, h8.out⟩, hb2.out⟩
  case round =>
    obtain ⟨i, hi, rfl, hp3, hp6, hre, hbr⟩ := hrel
    by_cases hlt : i < l.length
    · rcases hL with h0 | ⟨b, ob, rfl, hGb, hbl, hop⟩
      · rw [h0] at hlt; exact absurd hlt (by simp)
      obtain ⟨A, c, hA, hR, hc⟩ := hop i hlt
      have hcl : ∀ (j : Nat) (u : Value), (opCs l[i] A c).toList[j]? = some u → wr.cell? ((⟨b, ob + i * 9, none⟩ : Addr).add j) = some u := fun j u hu => by
        rw [addr_add]
        exact (hbr.cell (p := ⟨b, _, none⟩) hbl).trans (hc j u (by simpa using hu))
      have HCL := Lib.hid hcl
      have hz : Blk (wr.alloc (.cells (opZs 0 0) 28)) wr.heap.size 28 (opZs 0 0) := Blk.new _ _ _
      have HST := Lib.hid (op_store (o := l[i]) (A := A) (c := c) hz)
      have hX3 := Lib.hid (hz.setRow (opCs l[i] A c))
      have hrw : Below wr.heap.size wr ((wr.alloc (.cells (opZs 0 0) 28)).setRow wr.heap.size (opCs l[i] A c)) := below_setRow ((Below.refl _ _).alloc (Nat.le_refl _) _) (Nat.le_refl _) _
      have hp33 := Lib.hid (hp3.below hrw hp3.lt)
      have hp63 := Lib.hid (hp6.below hrw hp6.lt)
      have hre3 := Lib.hid (hre.below hrw)
      have hb3 := Lib.hid (hbr.trans (hrw.mono hbr.size))
      have HOK := Lib.hid (hok l[i] (List.getElem_mem hlt))
      have HR := Lib.hid hR
      have HA := Lib.hid hA
      have HPG := Lib.hid (show i ≠ k → l[i].page ≠ x.id from fun h => hone.out i hlt h)
      clear hcl hz hrw hp3 hp6 hre hc hop hR hA
      go_upto_region 7 with (first
        | refine wpList_load_part rfl _ _ rfl ⟨b, ob + i * 9, none⟩ rfl (opCs l[i] A c).toList _ HCL.out Tryz.underlying28 rfl op_size ?_
        | ((with_reducible refine wpList_skip (w' := (wr.alloc (.cells (opZs 0 0) 28)).setRow wr.heap.size (opCs l[i] A c)) rfl rfl ?_ ?_); exact run_op_store _ _ _ ⟨wr.heap.size, 0, none⟩ (opV l[i] A c) rfl rfl rfl HST.out))
      clear HST HCL
      generalize (wr.alloc (.cells (opZs 0 0) 28)).setRow wr.heap.size (opCs l[i] A c) = w3 at hX3 hp33 hp63 hre3 hb3 ⊢
      obtain ⟨g10, hg10⟩ : ∃ g, g = wr.heap.size := ⟨_, rfl⟩
      rw [← hg10] at hX3
      rw [← hg10]
      clear hg10 hbr
      have x1 := hX3.out.cell 1
      have p2 := hp33.out.cell 2
      simp only [opCs, List.getElem?_toArray, List.getElem?_cons_succ, List.getElem?_cons_zero] at x1 p2
      by_cases hik : i = k
      · subst hik
        have q1 : ((l[i].page : Int) != (x.id : Int)) = false := by have := hid.out; simp; omega
        have h8x := Lib.hid (show Blk w3 g8 50 (pgCs x A2 c2) by
          rcases hre3.out with ⟨-, h⟩ | ⟨h, -⟩
          · exact h
          · exact absurd h (by simp))
        have hHC := HC A c
        have HAP := Lib.hid (op_apply (w := w3) (c := c) (c2 := c2) (lsn := lsn) hmay.out HOK.out.1 HOK.out.2 (Reads.below HR.out hb3.out) HA.out (Reads.below hX hb3.out) hA2 hxm.out hid.out hkf.out hHC hres.out)
        have HLP := Lib.hid (page_load h8x.out)
        have HLO := Lib.hid (op_load hX3.out)
        clear hHC hre3
        go_wp2_with (first
          | ((with_reducible refine wpList_run (v := pgV x A2 c2) (w' := w3) 30 rfl rfl ?_ ?_); exact run_op_load _ _ ⟨g8, 0, none⟩ rfl rfl HLP.out; simp only [List.setIfInBounds_toArray, List.set_cons_zero, List.set_cons_succ])
          | ((with_reducible refine wpList_run (v := opV l[i] A c) (w' := w3) 31 rfl rfl ?_ ?_); exact run_op_load _ _ ⟨g10, 0, none⟩ rfl rfl HLO.out; simp only [List.setIfInBounds_toArray, List.set_cons_zero, List.set_cons_succ]))
        refine HAP.out.mono ?_
        rintro e w4 ⟨hap, hb4⟩
        have hp34 := Lib.hid (hp33.out.below hb4 hp33.out.lt)
        have hp64 := Lib.hid (hp63.out.below hb4 hp63.out.lt)
        have h84 := Lib.hid (h8x.out.below hb4 h8x.out.lt)
        have hbw4 := Lib.hid (hb3.out.trans (hb4.mono hb3.out.size))
        have hsz3 := hb3.out.size
        clear HAP HLP HLO x1 p2 hp33 hp63 h8x hb3 hb4
        rcases hap with ⟨hr, rfl⟩ | ⟨y, A5, c5, hr, rfl, hO⟩
        · have HR5 := Lib.hid hr
          have HST := Lib.hid (page_store (p := pgZ) (A := none) (c := 0) h84.out)
          have hp35 := Lib.hid (hp34.out.keep (heap_setRow_other w4 g8 w.heap.size (pgCs pgZ none 0) (by omega)))
          have hp65 := Lib.hid (hp64.out.keep (heap_setRow_other w4 g8 (w.heap.size + 1) (pgCs pgZ none 0) (by omega)))
          have hb5 := Lib.hid (below_setRow hbw4.out (show w.heap.size ≤ g8 by omega) (pgCs pgZ none 0))
          have HL5 := Lib.hid (page_load hp35.out)
          have HS5 := Lib.hid (page_store (p := x) (A := A2) (c := c2) hp65.out)
          have h66 := Lib.hid (hp65.out.setRow (pgCs x A2 c2))
          have hb6 := Lib.hid (below_setRow hb5.out (show w.heap.size ≤ w.heap.size + 1 by omega) (pgCs x A2 c2))
          clear hr hp34 hp64 h84 hbw4
          go_wp2_with (first
            | ((with_reducible refine wpList_skip (w' := w4.setRow g8 (pgCs pgZ none 0)) rfl rfl ?_ ?_); exact run_op_store _ _ _ ⟨g8, 0, none⟩ (pgV pgZ none 0) rfl rfl rfl HST.out)
            | ((with_reducible refine wpList_run (v := pgV x A2 c2) (w' := w4.setRow g8 (pgCs pgZ none 0)) 38 rfl rfl ?_ ?_); exact run_op_load _ _ ⟨w.heap.size, 0, none⟩ rfl rfl HL5.out; simp only [List.setIfInBounds_toArray, List.set_cons_zero, List.set_cons_succ])
            | ((with_reducible refine wpList_skip (w' := (w4.setRow g8 (pgCs pgZ none 0)).setRow (w.heap.size + 1) (pgCs x A2 c2)) rfl rfl ?_ ?_); exact run_op_store _ _ _ ⟨w.heap.size + 1, 0, none⟩ (pgV x A2 c2) rfl rfl rfl HS5.out))
          generalize World.setRow _ _ _ = w10 at h66 hb6 ⊢
          have z0 := h66.out.cell 0
          have z1 := h66.out.cell 1
          have z2 := h66.out.cell 2
          have z3 := h66.out.cell 3
          have z4 := h66.out.cell 4
          have z5 := h66.out.cell 5
          simp only [List.getElem?_toArray, List.getElem?_cons_succ, List.getElem?_cons_zero] at z0 z1 z2 z3 z4 z5
          exact bodyPost_ret (v := .tuple #[pgV x A2 c2, .int .i64 3]) (by rw [results_cell_tmp rfl]; go_simp) rfl ⟨.inl ⟨HR5.out, rfl⟩, hb6.out⟩
        · have HST := Lib.hid (page_store (p := { y with lsn := lsn }) (A := A5) (c := c5) h84.out)
          have h85 := h84.out.setRow (pgCs { y with lsn := lsn } A5 c5)
          have hp35 := Lib.hid (hp34.out.keep (heap_setRow_other w4 g8 w.heap.size (pgCs { y with lsn := lsn } A5 c5) (by omega)))
          have hp65 := Lib.hid (hp64.out.keep (heap_setRow_other w4 g8 (w.heap.size + 1) (pgCs { y with lsn := lsn } A5 c5) (by omega)))
          have hO5 := own_keep hO (w' := w4.setRow g8 (pgCs { y with lsn := lsn } A5 c5)) (fun k hk => heap_setRow_other _ _ _ _ (fun e => own_ne hO h84.out (by decide) (e ▸ hk)))
          have hb5 := Lib.hid (below_setRow hbw4.out (show w.heap.size ≤ g8 by omega) (pgCs { y with lsn := lsn } A5 c5))
          have hre5 := Lib.hid (show ReAt w.heap.size g8 x A2 c2 res lsn (decide (i < i + 1)) (w4.setRow g8 (pgCs { y with lsn := lsn } A5 c5)) from .inr ⟨by simp, y, A5, c5, hr, h85, own_low hO5 hsz3⟩)
          clear hr hO hO5 h85 hp34 hp64 h84 hbw4
          go_wp2_with (first
            | ((with_reducible refine wpList_skip (w' := w4.setRow g8 (pgCs { y with lsn := lsn } A5 c5)) rfl rfl ?_ ?_); exact run_op_store _ _ _ ⟨g8, 0, none⟩ (pgV { y with lsn := lsn } A5 c5) rfl rfl rfl HST.out))
          go_roundw
          case rel => exact ⟨i + 1, hlt, by go_num, hp35.out, hp65.out, hre5.out, hb5.out⟩
          case measure => simp [intOf]; omega
      · have q1 : ((l[i].page : Int) != (x.id : Int)) = true := by have := HPG.out hik; simp; omega
        have hdec : decide (k < i + 1) = decide (k < i) := by rw [Bool.eq_iff_iff]; simp; omega
        rw [← hdec] at hre3
        clear hdec
        go_wp2_with fail
        go_roundw
        case rel => exact ⟨i + 1, hlt, by go_num, hp33.out, hp63.out, hre3.out, hb3.out⟩
        case measure => simp [intOf]; omega
    · obtain rfl : i = l.length := by omega
      rcases hre with ⟨h1, -⟩ | ⟨-, y, A, c, hr, h8, hO⟩
      · exact absurd h1 (by simp [hk])
      have HL9 := Lib.hid (page_load h8)
      have HS9 := Lib.hid (page_store (p := { y with lsn := lsn }) (A := A) (c := c) hp6)
      have h610 := hp6.setRow (pgCs { y with lsn := lsn } A c)
      have hO10 := own_keep hO (w' := wr.setRow (w.heap.size + 1) (pgCs { y with lsn := lsn } A c)) (fun k hk => heap_setRow_other _ _ _ _ (fun e => own_ne hO hp6 (by decide) (e ▸ hk)))
      have hb10 : Below w.heap.size w (wr.setRow (w.heap.size + 1) (pgCs { y with lsn := lsn } A c)) := below_setRow hbr (by omega) _
      replace h610 := Lib.hid h610
      replace hO10 := Lib.hid hO10
      replace hb10 := Lib.hid hb10
      have HR := Lib.hid hr
      clear hp3 hp6 h8 hO hbr hr
      go_wp2_with (first
        | ((with_reducible refine wpList_run (v := pgV { y with lsn := lsn } A c) (w' := wr) 41 rfl rfl ?_ ?_); exact run_op_load _ _ ⟨g8, 0, none⟩ rfl rfl HL9.out; simp only [List.setIfInBounds_toArray, List.set_cons_zero, List.set_cons_succ])
        | ((with_reducible refine wpList_skip (w' := wr.setRow (w.heap.size + 1) (pgCs { y with lsn := lsn } A c)) rfl rfl ?_ ?_); exact run_op_store _ _ _ ⟨w.heap.size + 1, 0, none⟩ (pgV { y with lsn := lsn } A c) rfl rfl rfl HS9.out))
      generalize World.setRow _ _ _ = w10 at h610 hO10 hb10 ⊢
      have z0 := h610.out.cell 0
      have z1 := h610.out.cell 1
      have z2 := h610.out.cell 2
      have z3 := h610.out.cell 3
      have z4 := h610.out.cell 4
      have z5 := h610.out.cell 5
      simp only [List.getElem?_toArray, List.getElem?_cons_succ, List.getElem?_cons_zero] at z0 z1 z2 z3 z4 z5
      exact bodyPost_ret (v := .tuple #[pgV { y with lsn := lsn } A c, .int .i64 0]) (by rw [results_cell_tmp rfl]; go_simp) rfl ⟨.inr ⟨y, A, c, HR.out, rfl, hO10.out⟩, hb10.out⟩
end Go.Proofs.YtclpmkinjjhncaaGreat

/- (*Act).Do, walked. -/
namespace Go.Proofs.YtclpmkinjjhncaaGreat
open Go.RowKit Go.Conc Go.Maps

def Sp.R15.pinsN (s : Sp.R15) (ks : List Nat) : Sp.R15 := ks.foldl (fun s k => (s.pin k).2.2) s
theorem Sp.R15.pinsN_add (s : Sp.R15) (ks : List Nat) (k : Nat) : s.pinsN (ks ++ [k]) = ((s.pinsN ks).pin k).2.2 := by simp [Sp.R15.pinsN]
def Sp.R15.putsN (s : Sp.R15) (xs : List Sp.Pg) : Sp.R15 := xs.foldl (fun s x => (s.put x (mayB x)).2) s
theorem Sp.R15.putsN_add (s : Sp.R15) (xs : List Sp.Pg) (x : Sp.Pg) : s.putsN (xs ++ [x]) = ((s.putsN xs).put x (mayB x)).2 := by simp [Sp.R15.putsN]

/-- The pages under way: those ahead of i are pinned. -/
def fPin (X : Nat → Sp.Pg) (ps : List Nat) (i : Nat) : Nat → Option Sp.Pg := fun k => if k ∈ ps.take i then some (X k) else none
/-- Those ahead of i are redone. -/
def fRed (X Y : Nat → Sp.Pg) (ps : List Nat) (i : Nat) : Nat → Option Sp.Pg := fun k => if k ∈ ps.take i then some (Y k) else if k ∈ ps then some (X k) else none

/-- Where Do comes to its end, and with which words. -/
def DoStop (lg : Sp.Lg) (s : Sp.R15) (t : Sp.Bs) (ps : List Nat) (Y : Nat → Sp.Pg) (res : Nat → Option Sp.Pg) (i : Nat) (lg' : Sp.Lg) (s' : Sp.R15) (v c : Nat) : Prop :=
  (∀ j (hj : j < ps.length), j < i → ((s.pinsN (ps.take j)).pin ps[j]).1 = 0) ∧ ((∃ hi : i < ps.length, ((s.pinsN (ps.take i)).pin ps[i]).1 = c ∧ c ≠ 0 ∧ s' = ((s.pinsN (ps.take i)).pin ps[i]).2.2 ∧ v = 0 ∧ lg' = lg) ∨
  (i = ps.length ∧ s' = s.pinsN ps ∧ c = 3 ∧ v = 0 ∧ lg' = lg ∧ ∃ k ∈ ps, res k = none) ∨
  (i = ps.length ∧ lg' = lg.append t ∧ (∀ k ∈ ps, ∃ y, res k = some y) ∧ ((∃ j, ∃ hj : j < ps.length, ∃ s1 : Sp.R15, s1 = (({ s.pinsN ps with next := lg.next + (14 + t.length) } : Sp.R15).putsN ((ps.take j).map Y)) ∧ (s1.put (Y ps[j]) (mayB (Y ps[j]))).1 = c ∧ c ≠ 0 ∧ s' = (s1.put (Y ps[j]) (mayB (Y ps[j]))).2 ∧ v = 0) ∨
    (c = 0 ∧ v = lg.next ∧ s' = ({ s.pinsN ps with next := lg.next + (14 + t.length) } : Sp.R15).putsN (ps.map Y)))))

/-- What Do answers, and leaves. -/
def DoAns (ly : Ly) (K : Foot) (w : World) (gd gl gp : Nat) (lg : Sp.Lg) (s : Sp.R15) (q : Sp.Bs × Nat) (ps : List Nat) (Y : Nat → Sp.Pg) (res : Nat → Option Sp.Pg) (e : Ending) (w' : World) : Prop :=
  Kept K w w' ∧
  ((q.2 ≠ 0 ∧ e = .returned (.tuple #[.int .u64 0, .int .i64 q.2]) ∧ PkAt ly K w' gd gl gp lg s) ∨
   (q.2 = 0 ∧ ∃ (i : Nat) (ks : List Nat) (lg' : Sp.Lg) (s' : Sp.R15) (v c : Nat), ks.Nodup ∧ (∀ x, x ∈ ks ↔ x ∈ ps.take i) ∧ e = .returned (.tuple #[.int .u64 v, .int .i64 c]) ∧ PkAt ly K w' gd gl gp { lg' with forced := (s'.unpins ks).forced } (s'.unpins ks) ∧ DoStop lg s q.1 ps Y res i lg' s' v c))

theorem fPin_zero (X : Nat → Sp.Pg) (ps : List Nat) : fPin X ps 0 = fun _ => none := by
  funext k
  simp [fPin]
theorem take_next (ps : List Nat) (i : Nat) (hi : i < ps.length) : ps.take (i + 1) = ps.take i ++ [ps[i]] := by
  rw [List.take_add_one, List.getElem?_eq_getElem hi]; rfl
theorem mem_next {ps : List Nat} {i : Nat} (hi : i < ps.length) (k : Nat) : k ∈ ps.take (i + 1) ↔ k ∈ ps.take i ∨ k = ps[i] := by
  rw [take_next ps i hi]
  simp only [List.mem_append, List.mem_singleton]
theorem fPin_next (X : Nat → Sp.Pg) (ps : List Nat) (i : Nat) (hi : i < ps.length) : fPut (fPin X ps i) ps[i] (X ps[i]) = fPin X ps (i + 1) := by
  funext k
  unfold fPut fPin
  simp only [mem_next hi]
  by_cases hk : k = ps[i]
  · subst hk; simp only [if_true, or_true]
  · simp only [hk, if_false, or_false]
theorem fPin_some (X : Nat → Sp.Pg) (ps : List Nat) (i k : Nat) : (fPin X ps i k).isSome ↔ k ∈ ps.take i := by
  unfold fPin
  split <;> simp [*]
theorem fRed_zero (X Y : Nat → Sp.Pg) (ps : List Nat) : fRed X Y ps 0 = fPin X ps ps.length := by
  funext k
  simp [fRed, fPin]
theorem not_taken {ps : List Nat} (hnd : ps.Nodup) {i : Nat} (hi : i < ps.length) : ps[i] ∉ ps.take i := by
  intro h
  obtain ⟨j, hj, he⟩ := List.getElem_of_mem h
  rw [List.length_take] at hj
  rw [List.getElem_take] at he
  exact (List.pairwise_iff_getElem.1 hnd) j i (by omega) hi (by omega) he
theorem fRed_at (X Y : Nat → Sp.Pg) {ps : List Nat} (hnd : ps.Nodup) {i : Nat} (hi : i < ps.length) : fRed X Y ps i ps[i] = some (X ps[i]) := by
  unfold fRed
  rw [if_neg (not_taken hnd hi), if_pos (List.getElem_mem hi)]
theorem fRed_next (X Y : Nat → Sp.Pg) {ps : List Nat} {i : Nat} (hi : i < ps.length) : fPut (fRed X Y ps i) ps[i] (Y ps[i]) = fRed X Y ps (i + 1) := by
  funext k
  unfold fPut fRed
  simp only [mem_next hi]
  by_cases hk : k = ps[i]
  · subst hk; simp only [if_true, or_true]
  · simp only [hk, if_false, or_false]
theorem fRed_some (X Y : Nat → Sp.Pg) (ps : List Nat) (i k : Nat) : (fRed X Y ps i k).isSome ↔ k ∈ ps.take ps.length := by
  unfold fRed
  rw [List.take_length]
  split
  · rename_i h
    simp [List.mem_of_mem_take h]
  · split <;> simp [*]
theorem fRed_all (X Y : Nat → Sp.Pg) {ps : List Nat} {k : Nat} (hk : k ∈ ps) : fRed X Y ps ps.length k = some (Y k) := by
  unfold fRed
  rw [List.take_length, if_pos hk]
theorem page_lsn (p : Sp.Pg) (A : Option Addr) (c : Nat) (w : World) : (Instr.field 50 (pgV p A c) 3).run Tryz.prog w = .ok (.int .u64 p.lsn) w := by kernel_rfl
theorem zeroPg_eq : zeroPgV = pgV pgZ none 0 := rfl
theorem OpsAt.kept {G K : Foot} {w w' : World} {L : Option Addr} {l : List Sp.Op} (h : OpsAt G w L l) (hk : Kept K w w') (hG : ∀ b, G b → K b) : OpsAt G w' L l :=
  h.turns (F := fun b => ¬ K b) (F' := fun b => ¬ K b) ⟨hk.os, hk.tape, hk.output, hk.size, fun b _ hn => hk.block b (Classical.not_not.1 hn), fun _ h => .inl h⟩ (fun b hb hn => hn (hG b hb))

/-- How Do is left: the deferred closure, then the results. -/
theorem do_leave {ly : Ly} {K0 K' : Foot} {w0 w : World} {ga gd gl gp tm ta b n : Nat} {lk : Nat → Option Value} {f : Nat → Option Sp.Pg} {l : Sp.Lg} {s : Sp.R15} (h : DoAt ly K0 w0 ga gd gl gp tm ta b K' lk n f l s w) {R : Ending → World → Prop} {tmps : Array Value} {v : Value}
    (hv : ∀ w', (results Tryz.f9 tmps).run Tryz.prog w' = .ok v w')
    (hR : ∀ (w' : World) (ks : List Nat), ks.Nodup → (∀ x, x ∈ ks ↔ (f x).isSome) → Kept K0 w0 w' → PkAt ly K0 w' gd gl gp { l with forced := (s.unpins ks).forced } (s.unpins ks) → R (.returned v) w') :
    bodyPostD Tryz.prog Tryz.f9 R .ret { tmps := tmps, defers := [{ target := .fn (.func 39) #[.pointer (some ⟨tm, 0, none⟩), .pointer (some ⟨ta, 0, none⟩)], args := #[] }] } w := by
  refine leaves_cons (f := 39) (args := #[.pointer (some ⟨tm, 0, none⟩), .pointer (some ⟨ta, 0, none⟩)]) (by simp) (by simp [go_sem]) ?_
  refine (h.unpins .returning).mono ?_
  rintro e u' w' ⟨rfl, rfl, ks, h1, h2, h3, h4⟩
  exact ⟨v, hv w', hR w' ks h1 h2 h3 h4⟩

set_option maxRecDepth 100000 in
set_option maxHeartbeats 8000000 in
theorem act_do {ly : Ly} {K : Foot} {w : World} {ga gd gl gp : Nat} {lg : Sp.Lg} {s : Sp.R15} {G : Foot} {r : Sp.Rec} {D T : Option Addr} {cd ct cl : Nat} {L : Option Addr} {l : List Sp.Op} {ps : List Nat} {X Y : Nat → Sp.Pg} {res : Nat → Option Sp.Pg}
    (h : PkAt ly K w gd gl gp lg s) (hA : Blk w ga 111 #[ptr gp, ptr gl]) (hKa : K ga) (ho : r.Ok) (h8 : r.kind ≠ 8) (hL : OpsAt G w L l) (hG : ∀ c, G c → K c) (hok : ∀ o ∈ l, o.Ok ∧ o.Short) (hn : l.length ≤ 12)
    (h0 : (Sp.record r l).2 = 0 → 0 < l.length) (hs : Sp.sorted (l.map (·.page)) = ps) (hpl : ps.length = l.length) (hd : ∀ j, 0 < j → j < ps.length → ps[j]! ≠ ps[j - 1]!) (h32 : ∀ k ∈ ps, k < 4294967296) (hnd : ps.Nodup)
    (hpins : ∀ i, i ≤ ps.length → ∀ x ∈ (s.pinsN (ps.take i)).L, x.pins < 1000000)
    (hX : ∀ j (hj : j < ps.length) x, ((s.pinsN (ps.take j)).pin ps[j]).2.1 = some x → x = X ps[j]) (hlsn : ∀ k ∈ ps, (X k).lsn < lg.next) (hnext : lg.next < 1000000000000) (hres : lg.reserved < 1000000000) (hroom : ∀ fo, 14 + (Sp.record r l).1.length ≤ ({ lg with forced := fo } : Sp.Lg).left)
    (hY : ∀ k ∈ ps, ∀ y, res k = some y → Y k = { y with lsn := lg.next } ∧ (Y k).wf ∧ (Y k).rows.length ≤ 1000000000 ∧ Sp.total (Y k).rows ≤ 1000000000000000000)
    (HRedo : ∀ (W : World) (A : Option Addr) (c : Nat) (G1 G2 : Foot) (k : Nat), k ∈ ps → OpsAt G1 W L l → RowsAt G2 W A (X k).rows → OkAddr A → Calls Tryz.prog 42 #[pgV (X k) A c, .int .u64 lg.next, .slice L l.length cl] W fun e w' => ReAns (X k) A c (res k) lg.next W e w' ∧ Below W.heap.size W w') :
    Calls Tryz.prog 9 #[ptr ga, recV r D T cd ct, .slice L l.length cl] w (DoAns ly K w gd gl gp lg s (Sp.record r l) ps Y res) := by
  have hb1 := ((Below.refl w.heap.size w).alloc (Nat.le_refl _) (.cells #[ptr ga] 33)).alloc (by simp) (.cells (recCs r D T cd ct) 48)
  have h3 := (Blk.new w 33 #[ptr ga]).alloc (.cells (recCs r D T cd ct) 48)
  have h4 := Blk.new (w.alloc (.cells #[ptr ga] 33)) 48 (recCs r D T cd ct)
  have z1 : (w.alloc (.cells #[ptr ga] 33)).heap.size = w.heap.size + 1 := by simp
  rw [z1] at h4
  clear z1
  have hmf : ∀ (fn : Fn) (first cap : Array Value) (w : World), (Instr.makeFunc fn first cap).run Tryz.prog w = .ok (.func fn first cap) w := fun _ _ _ _ => rfl
  have HMF := Lib.hid hmf
  clear hmf
  have hl1 := hL.below hb1
  have HR := Lib.hid fun (W : World) (hW : OpsAt G W L l) => act_record (w := W) (D := D) (T := T) (cd := cd) (ct := ct) (cl := cl) ho h8 hW hok (by omega)
  have hAl := hA.lt
  go_enter_defers Tryz.func9, Tryz.ntmps9
  go_upto_region 1 with fail
  change Code.wp _ _ _ _ ((w.alloc (.cells #[ptr ga] 33)).alloc (.cells (recCs r D T cd ct) 48))
  generalize (w.alloc (.cells #[ptr ga] 33)).alloc (.cells (recCs r D T cd ct) 48) = w1 at h3 h4 hb1 hl1 ⊢
  have hA1 := Lib.hid (hA.below hb1 hAl)
  have HN := Lib.hid (act_none hA1.out)
  have HLD := Lib.hid (rec_load h4)
  have c3 := h3.cell 0
  simp only [List.getElem?_toArray, List.getElem?_cons_zero] at c3
  have h3' := Lib.hid h3
  have hb1' := Lib.hid hb1
  have hlt4 := h4.lt
  clear h3 h4
  go_wp2_with (first
    | (go_at_call 36; refine HN.out.mono ?_; rintro e w2 ⟨rfl, hw⟩; subst w2)
    | ((with_reducible refine wpList_run (v := recV r D T cd ct) (w' := w1) 26 rfl rfl ?_ ?_); exact run_op_load _ _ ⟨w.heap.size + 1, 0, none⟩ rfl rfl HLD.out; simp only [List.setIfInBounds_toArray, List.set_cons_zero, List.set_cons_succ]))
  refine (HR.out w1 hl1).mono ?_
  rintro e w2 ⟨⟨v, rfl, hv⟩, hb2⟩
  obtain rfl := rcd_eq hv
  have hb12 := Lib.hid (hb1.trans (hb2.mono hb1.size))
  have hlen := Sp.record_len (r := r) (l := l)
  generalize hq : Sp.record r l = q at *
  obtain ⟨t, er⟩ := q
  clear hq hv HN HLD HR
  dsimp only at *
  by_cases he : er = 0
  · subst he
    have h17 := hlen rfl
    have h0 := h0 rfl
    have HP := Lib.hid (op_pages (cl := cl) (hL.below hb12.out) h0 hn hs hpl hd)
    have hH := Lib.hid h
    have HHL := Lib.hid (show 17 ≤ t.length ∧ t.length ≤ 3097 from h17)
    clear hlen h17
    replace hpl := Lib.hid hpl
    have hmm := @run_makeMap Tryz.prog
    have hmf := HMF.out
    go_wp2_with (go_at_call 38; refine HP.out.mono ?_; rintro e w3 ⟨g, cap, cs, rfl, hg, hcs, hcj, hb3⟩)
    clear hmm hmf HMF
    have hb13 := hb12.out.trans (hb3.mono hb12.out.size)
    have hb34 := ((Below.refl w3.heap.size w3).alloc (Nat.le_refl _) (.map #[] 0)).alloc (by simp) (.cells #[Value.map (some w3.heap.size)] 109)
    have hsz4 : ((w3.alloc (.map #[] 0)).alloc (.cells #[Value.map (some w3.heap.size)] 109)).heap.size = w3.heap.size + 2 := by simp
    have hvm := (VMap.made (P := Tryz.prog) (k := 25) w3).below ((Below.refl (w3.heap.size + 1) (w3.alloc (.map #[] 0))).alloc (by simp) (.cells #[Value.map (some w3.heap.size)] 109)) (by omega)
    have hcm := Blk.new (w3.alloc (.map #[] 0)) 109 #[Value.map (some w3.heap.size)]
    have z3 : (w3.alloc (.map #[] 0)).heap.size = w3.heap.size + 1 := by simp
    rw [z3] at hcm
    have hlt1 := h3'.out.lt
    have hsz1 := hb1'.out.size
    have hsz2 := hb2.size
    have hsz3 := hb3.size
    have hcs4 := hcs.below hb34 hcs.lt
    have hgl := hcs.lt
    have hb14 := hb13.trans (hb34.mono hb13.size)
    have hDo : DoRow ly K w ga gd gl gp (w3.heap.size + 1) w.heap.size w3.heap.size g cs 0 (fPin X ps 0) lg s ((w3.alloc (.map #[] 0)).alloc (.cells #[Value.map (some w3.heap.size)] 109)) := by
      refine ⟨fun c => K c ∨ (w.heap.size ≤ c ∧ c < ((w3.alloc (.map #[] 0)).alloc (.cells #[Value.map (some w3.heap.size)] 109)).heap.size), fun _ => none, 0, Nat.le_refl _, ?_, hcs4, ?_, ?_⟩
      · rw [fPin_zero]
        exact {
          kp := Kept.of_below hb14 hH.out.lt
          low := hH.out.lt
          pk := hH.out.more hb14 (fun _ hc => hc)
          sub := fun _ hc => .inl hc
          act := hA.below hb14 hAl
          ka := .inl hKa
          cm := hcm.cell 0
          km := .inr (by omega)
          ct := by
            have := ((h3'.out.below hb2 hlt1).below hb3 (by omega)).below hb34 (by omega)
            exact this.cell 0
          kt := .inr (by omega)
          vm := hvm
          kb := .inr (by omega)
          new := by omega
          nm := by omega
          nt := by omega
          na := by omega
          pg := fun k => rfl }
      · exact .inr (by omega)
      · omega
    obtain ⟨b, hb⟩ : ∃ b, b = w3.heap.size := ⟨_, rfl⟩
    generalize hW : (w3.alloc (.map #[] 0)).alloc (.cells #[Value.map (some w3.heap.size)] 109) = w4 at hDo ⊢
    rw [← hb] at hDo ⊢
    clear hb
    have hDo' : DoRow ly K w ga gd gl gp (b + 1) w.heap.size b g cs 0 (fPin X ps 0) { lg with forced := (s.pinsN (ps.take 0)).forced } (s.pinsN (ps.take 0)) w4 := by
      obtain ⟨p, dk, hr⟩ := hH.out.rep
      rw [show s.pinsN (ps.take 0) = s from rfl, ← hr.lgs]
      exact hDo
    have hHX := Lib.hid hX
    have hHp := Lib.hid hpins
    have hH32 := Lib.hid h32
    have hHls := Lib.hid hlsn
    have hHL := Lib.hid hL
    have hHcj := Lib.hid hcj
    have hHhd := Lib.hid hd
    have hHs := Lib.hid hs
    have hln12 : ps.length ≤ 12 := by have := hpl.out; omega
    have hHA := Lib.hid hA
    have HY := Lib.hid hY
    have HRE := Lib.hid HRedo
    clear hX hpins h32 hlsn hL hcj hd hs hA hY HRedo hDo hW hvm hcm hcs4 hcs hb34 hb14 hb13 hb3 hb2 hb1 hl1 hsz4 z3 hsz1 hsz2 hsz3 h3' c3 hA1 hb12 hb1' HP h
    clear hlt1 hlt4
    go_loopw [40] (fun v40 wr => ∃ i : Nat, i ≤ ps.length ∧ v40 = .int .i64 i ∧ (∀ j (hj : j < ps.length), j < i → ((s.pinsN (ps.take j)).pin ps[j]).1 = 0) ∧ DoRow ly K w ga gd gl gp (b + 1) w.heap.size b g cs i (fPin X ps i) { lg with forced := (s.pinsN (ps.take i)).forced } (s.pinsN (ps.take i)) wr) (fun v40 _ => ps.length - (intOf v40).toNat)
    case atStart => exact ⟨0, by omega, rfl, fun j hj h => by omega, hDo'⟩
    case round =>
      obtain ⟨i, hi, rfl, hzz, K', lk, m, hm, hD, hrow, hKg, hgb⟩ := hrel
      have HZZ := Lib.hid hzz
      clear hzz
      by_cases hlt : i < ps.length
      · have q1 : decide (i < ps.length) = true := by simpa using hlt
        have x0 := hrow.cell i
        rw [hHcj.out i hlt, getElem!_pos ps i hlt] at x0
        have hk32 := hH32.out ps[i] (List.getElem_mem hlt)
        have c0 := hD.act.cell 0
        simp only [List.getElem?_toArray, List.getElem?_cons_zero] at c0
        have cT := hD.ct
        have HPIN := Lib.hid (pk_pin hD.pk hk32 (hHp.out i hi))
        have HD := Lib.hid hD
        have hrow' := Lib.hid hrow
        clear hD hrow
        go_wp2_with fail
        refine HPIN.out.mono ?_
        rintro e w5 ⟨hk5, hpin⟩
        have hz : Blk (w5.alloc (.cells (pgCs pgZ none 0) 50)) w5.heap.size 50 (pgCs pgZ none 0) := Blk.new _ _ _
        rcases hpin with ⟨hp1, hp2, he, hp3⟩ | ⟨x, A, c, hp1, hp2, hwf, hmay, rfl, hAo, hR, hp3⟩
        · rw [zeroPg_eq] at he
          subst he
          have hD5 := HD.out.step hk5 hp3 (fun _ hc => hc)
          have hbz : Below w5.heap.size w5 ((w5.alloc (.cells (pgCs pgZ none 0) 50)).setRow w5.heap.size (pgCs pgZ none 0)) := below_setRow ((Below.refl _ _).alloc (Nat.le_refl _) _) (Nat.le_refl _) _
          have hD6 := Lib.hid (hD5.below hbz)
          have HST := Lib.hid (page_store (p := pgZ) (A := none) (c := 0) hz)
          have HC := Lib.hid (And.intro hp1 hp2)
          generalize hcode : ((s.pinsN (ps.take i)).pin ps[i]).1 = cc at *
          have q2 : ((cc : Int) != 0) = true := by simp; omega
          have HE := Lib.hid hcode
          clear hD5 hbz hz hk5 hp1 hp2 hp3 HD hcode hrow' x0 c0 cT
          go_wp2_with (first
            | ((with_reducible refine wpList_skip (w' := (w5.alloc (.cells (pgCs pgZ none 0) 50)).setRow w5.heap.size (pgCs pgZ none 0)) rfl rfl ?_ ?_); exact run_op_store _ _ _ ⟨w5.heap.size, 0, none⟩ (pgV pgZ none 0) rfl rfl rfl HST.out))
          refine do_leave hD6.out (fun w' => results_tmp2 rfl _ _ _) (fun w' ks k1 k2 k3 k4 => ⟨k3, .inr ⟨rfl, i, ks, lg, _, 0, cc, k1, fun x => (k2 x).trans (fPin_some X ps i x), rfl, k4, HZZ.out, .inl ⟨hlt, HE.out, HC.out.2, rfl, rfl, rfl⟩⟩⟩)
        · have hD5 := HD.out.step hk5 hp3 (fun _ hc => .inl hc)
          have hx : x = X ps[i] := hHX.out i hlt x hp1
          have HZ2 := Lib.hid (show ∀ j (hj : j < ps.length), j < i + 1 → ((s.pinsN (ps.take j)).pin ps[j]).1 = 0 by
            intro j hj h
            by_cases e : j = i
            · subst e; exact hp2
            · exact HZZ.out j hj (by omega))
          have hbz : Below w5.heap.size w5 ((w5.alloc (.cells (pgCs pgZ none 0) 50)).setRow w5.heap.size (pgCs x A c)) := below_setRow ((Below.refl _ _).alloc (Nat.le_refl _) _) (Nat.le_refl _) _
          have hD6 := hD5.below hbz
          have HST := Lib.hid (page_store (p := x) (A := A) (c := c) hz)
          have hz6 := hz.setRow (pgCs x A c)
          have HLD := Lib.hid (page_load hz6)
          have hbK := hD5.pk.lt b hD5.kb
          have hbw := HD.out.pk.lt b HD.out.kb
          obtain ⟨w7, hup, hD7, hg7⟩ := hD6.put (by omega) hk32 (x := x) (A := A) (c := c) hAo ((hR.below hbz).mono (fun d hd => ⟨.inl (.inr hd.2), fun e => by have := hd.1; omega⟩))
          have hrow7 : Blk w7 g 25 cs := by
            have h1 := (hk5.block g hKg).trans hrow'.out
            have h2 := h1.trans rfl
            have h3 : Blk ((w5.alloc (.cells (pgCs pgZ none 0) 50)).setRow w5.heap.size (pgCs x A c)) g 25 cs := Blk.below h1 hbz (by have := hD5.pk.lt g (.inl hKg); omega)
            exact (hg7.block g h3.lt (fun e => by injection e with e; exact hgb e)).trans h3
          have q2 : (((0 : Nat) : Int) != 0) = false := by decide
          have cM := hD6.cm
          have HX5 := Lib.hid (show DoRow ly K w ga gd gl gp (b + 1) w.heap.size b g cs (i + 1) (fPin X ps (i + 1)) { lg with forced := (s.pinsN (ps.take (i + 1))).forced } (s.pinsN (ps.take (i + 1))) w7 by
            rw [take_next ps i hlt, Sp.R15.pinsN_add, ← fPin_next X ps i hlt, ← hx]
            exact ⟨_, _, _, by omega, hD7, hrow7, .inl (.inl hKg), hgb⟩)
          clear hD5 hD6 hD7 hbz hz hz6 hk5 hp1 hp2 hp3 HD hrow' hrow7 x0 c0 cT hR hAo hx hg7
          go_wp2_with (first
            | ((with_reducible refine wpList_skip (w' := (w5.alloc (.cells (pgCs pgZ none 0) 50)).setRow w5.heap.size (pgCs x A c)) rfl rfl ?_ ?_); exact run_op_store _ _ _ ⟨w5.heap.size, 0, none⟩ (pgV x A c) rfl rfl rfl HST.out)
            | ((with_reducible refine wpList_run (v := pgV x A c) (w' := (w5.alloc (.cells (pgCs pgZ none 0) 50)).setRow w5.heap.size (pgCs x A c)) 58 rfl rfl ?_ ?_); exact run_op_load _ _ ⟨w5.heap.size, 0, none⟩ rfl rfl HLD.out; simp only [List.setIfInBounds_toArray, List.set_cons_zero, List.set_cons_succ]))
          exact ⟨⟨i + 1, hlt, by go_num, HZ2.out, HX5.out⟩, by simp [intOf]; omega⟩
      · have hil : i = ps.length := by omega
        subst hil
        have q1 : decide (ps.length < ps.length) = false := by simp
        have c1 := hD.act.cell 1
        simp only [List.getElem?_toArray, List.getElem?_cons_succ, List.getElem?_cons_zero] at c1
        have cT := hD.ct
        have HNX := Lib.hid (pk_next hD.pk)
        have HD := Lib.hid (show DoRow ly K w ga gd gl gp (b + 1) w.heap.size b g cs ps.length (fPin X ps ps.length) { lg with forced := (s.pinsN ps).forced } (s.pinsN ps) wr by
          have hD' : DoRow ly K w ga gd gl gp (b + 1) w.heap.size b g cs ps.length (fPin X ps ps.length) { lg with forced := (s.pinsN (ps.take ps.length)).forced } (s.pinsN (ps.take ps.length)) wr := ⟨K', lk, m, hm, hD, hrow, hKg, hgb⟩
          rwa [List.take_length] at hD')
        clear hD hrow hKg hgb hm
        go_wp2_with fail
        refine HNX.out.mono ?_
        rintro e w5 ⟨rfl, hw⟩
        subst w5
        clear HNX c1 cT
        go_wp2_with fail
        have HD2 := Lib.hid (show DoRow ly K w ga gd gl gp (b + 1) w.heap.size b g cs (ps.length + 0) (fRed X Y ps 0) { lg with forced := (s.pinsN ps).forced } (s.pinsN ps) wr by rw [fRed_zero]; exact HD.out)
        clear HD
        have hdo := HD2.out
        go_loopw [67] (fun v67 wq => ∃ j : Nat, j ≤ ps.length ∧ v67 = .int .i64 j ∧ (∀ k ∈ ps.take j, ∃ y, res k = some y) ∧ DoRow ly K w ga gd gl gp (b + 1) w.heap.size b g cs (ps.length + j) (fRed X Y ps j) { lg with forced := (s.pinsN ps).forced } (s.pinsN ps) wq) (fun v67 _ => ps.length - (intOf v67).toNat)
        case atStart => exact ⟨0, by omega, rfl, by simp, HD2.out⟩
        case round =>
          clear hdo HD2
          obtain ⟨j, hj, rfl, hsome, K2, lk2, m2, hm2, hD, hrow, hKg, hgb⟩ := hrel
          have HSM := Lib.hid hsome
          clear hsome
          by_cases hlt : j < ps.length
          · have q2 : decide (j < ps.length) = true := by simpa using hlt
            have x0 := hrow.cell j
            rw [hHcj.out j hlt, getElem!_pos ps j hlt] at x0
            have hmem := List.getElem_mem hlt
            have hk32 := hH32.out ps[j] hmem
            obtain ⟨A, c, hlook, hAo, hR⟩ := hD.look hk32 (fRed_at X Y hnd hlt)
            have cM := hD.cm
            have d1 : decide (lg.next ≤ (X ps[j]).lsn) = false := by have := hHls.out ps[j] hmem; simp; omega
            have HRD := Lib.hid (HRE.out wr A c G _ ps[j] hmem (hHL.out.kept hD.kp hG) hR hAo)
            have hfd := page_lsn (X ps[j]) A c wr
            have HD := Lib.hid hD
            have hrow' := Lib.hid hrow
            have HM := Lib.hid hmem
            clear hD hrow hR hAo hmem
            go_wp2_with fail
            refine HRD.out.mono ?_
            rintro e w6 ⟨hre, hb6⟩
            have hbw := HD.out.pk.lt b HD.out.kb
            have hgw := HD.out.pk.lt g hKg
            have hD6 := HD.out.below hb6
            have hrow6 := hrow'.out.below hb6 hrow'.out.lt
            have hz : Blk (w6.alloc (.cells (pgCs pgZ none 0) 50)) w6.heap.size 50 (pgCs pgZ none 0) := Blk.new _ _ _
            rcases hre with ⟨hno, rfl⟩ | ⟨y, A5, c5, hy, rfl, hO⟩
            · have hbz : Below w6.heap.size w6 ((w6.alloc (.cells (pgCs pgZ none 0) 50)).setRow w6.heap.size (pgCs (X ps[j]) A c)) := below_setRow ((Below.refl _ _).alloc (Nat.le_refl _) _) (Nat.le_refl _) _
              have hD7 := Lib.hid (hD6.below hbz)
              have HST := Lib.hid (page_store (p := X ps[j]) (A := A) (c := c) hz)
              have HNO := Lib.hid hno
              clear hD6 hrow6 hbz hz hno HD hrow' x0 cM hlook hfd HRD hb6
              go_wp2_with (first
                | ((with_reducible refine wpList_skip (w' := (w6.alloc (.cells (pgCs pgZ none 0) 50)).setRow w6.heap.size (pgCs (X ps[j]) A c)) rfl rfl ?_ ?_); exact run_op_store _ _ _ ⟨w6.heap.size, 0, none⟩ (pgV (X ps[j]) A c) rfl rfl rfl HST.out))
              refine do_leave hD7.out (fun w' => results_tmp2 rfl _ _ _) (fun w' ks k1 k2 k3 k4 => ⟨k3, .inr ⟨rfl, ps.length, ks, lg, _, 0, 3, k1, fun x => (k2 x).trans (fRed_some X Y ps j x), rfl, k4, HZZ.out, .inr (.inl ⟨rfl, rfl, rfl, rfl, rfl, ps[j], HM.out, HNO.out⟩)⟩⟩)
            · obtain ⟨A7, c7, hv, hAo7, hR7⟩ := own_rows hO
              injection hv with v1 v2 v3
              subst v1 v3
              obtain ⟨hYj, -⟩ := HY.out ps[j] HM.out y hy
              have hbz : Below w6.heap.size w6 ((w6.alloc (.cells (pgCs pgZ none 0) 50)).setRow w6.heap.size (pgCs (Y ps[j]) A5 c5)) := below_setRow ((Below.refl _ _).alloc (Nat.le_refl _) _) (Nat.le_refl _) _
              have hR8 := Reads.inside hR7
              have HSM2 := Lib.hid (show ∀ k ∈ ps.take (j + 1), ∃ y, res k = some y by
                intro k hk
                rcases (mem_next hlt k).1 hk with h | rfl
                · exact HSM.out k h
                · exact ⟨y, hy⟩)
              rw [show y.rows = (Y ps[j]).rows by rw [hYj]] at hR8
              rw [← hYj]
              have hD7 := hD6.below hbz
              have HST := Lib.hid (page_store (p := Y ps[j]) (A := A5) (c := c5) hz)
              have hz6 := hz.setRow (pgCs (Y ps[j]) A5 c5)
              have HLD := Lib.hid (page_load hz6)
              obtain ⟨w7, hup, hD8, hg7⟩ := hD7.put (by omega) hk32 (x := Y ps[j]) (A := A5) (c := c5) hAo7 ((hR8.below hbz).mono (fun d hd => ⟨.inl (.inr hd), fun e => by have := hd.1; omega⟩))
              have hrow7 := hrow6.below hbz hrow6.lt
              have hrow8 : Blk w7 g 25 cs := (hg7.block g hrow7.lt (fun e => by injection e with e; exact hgb e)).trans hrow7
              have cM6 := hD7.cm
              have HX5 := Lib.hid (show DoRow ly K w ga gd gl gp (b + 1) w.heap.size b g cs (ps.length + (j + 1)) (fRed X Y ps (j + 1)) { lg with forced := (s.pinsN ps).forced } (s.pinsN ps) w7 by
                rw [← fRed_next X Y hlt]
                exact ⟨_, _, _, by omega, hD8, hrow8, .inl (.inl hKg), hgb⟩)
              clear hD6 hD7 hD8 hbz hz hz6 HD hrow' hrow6 hrow7 hrow8 x0 cM hlook hfd HRD hb6 hR7 hR8 hAo7 hO hYj hy hg7
              go_wp2_with (first
                | ((with_reducible refine wpList_skip (w' := (w6.alloc (.cells (pgCs pgZ none 0) 50)).setRow w6.heap.size (pgCs (Y ps[j]) A5 c5)) rfl rfl ?_ ?_); exact run_op_store _ _ _ ⟨w6.heap.size, 0, none⟩ (pgV (Y ps[j]) A5 c5) rfl rfl rfl HST.out)
                | ((with_reducible refine wpList_run (v := pgV (Y ps[j]) A5 c5) (w' := (w6.alloc (.cells (pgCs pgZ none 0) 50)).setRow w6.heap.size (pgCs (Y ps[j]) A5 c5)) 91 rfl rfl ?_ ?_); exact run_op_load _ _ ⟨w6.heap.size, 0, none⟩ rfl rfl HLD.out; simp only [List.setIfInBounds_toArray, List.set_cons_zero, List.set_cons_succ]))
              exact ⟨⟨j + 1, hlt, by go_num, HSM2.out, HX5.out⟩, by simp [intOf]; omega⟩
          · have hjl : j = ps.length := by omega
            subst hjl
            have q2 : decide (ps.length < ps.length) = false := by simp
            have c1 := hD.act.cell 1
            simp only [List.getElem?_toArray, List.getElem?_cons_succ, List.getElem?_cons_zero] at c1
            have cT := hD.ct
            have HAP := Lib.hid (pk_append hD.pk hnext hres t (by have := HHL.out.2; omega))
            have HSM2 := Lib.hid (show ∀ k ∈ ps, ∃ y, res k = some y by have := HSM.out; rwa [List.take_length] at this)
            have HD := Lib.hid hD
            have hrow' := Lib.hid hrow
            clear hD hrow HSM
            go_wp2_with fail
            refine HAP.out.mono ?_
            rintro e w6 ⟨hk6, ⟨-, -, -, rfl, hp6⟩ | ⟨-, -, hbad, -, -⟩ | ⟨hbad, -, -⟩⟩
            · have HD3 := Lib.hid (show DoRow ly K w ga gd gl gp (b + 1) w.heap.size b g cs (ps.length + ps.length) (fRed X Y ps ps.length) { (lg.append t) with forced := (({ s.pinsN ps with next := lg.next + (14 + t.length) } : Sp.R15).putsN ((ps.take 0).map Y)).forced } (({ s.pinsN ps with next := lg.next + (14 + t.length) } : Sp.R15).putsN ((ps.take 0).map Y)) w6 from
                ⟨_, _, _, hm2, HD.out.step hk6 hp6 (fun _ hc => hc), (hk6.block g hKg).trans hrow'.out, hKg, hgb⟩)
              clear HD hrow' hKg hgb hk6 hp6 HAP c1 cT
              go_wp2_with fail
              go_loopw [6, 107] (fun v6 v107 wq => ∃ j : Nat, j ≤ ps.length ∧ v6 = .int .u64 lg.next ∧ v107 = .int .i64 j ∧ DoRow ly K w ga gd gl gp (b + 1) w.heap.size b g cs (ps.length + ps.length) (fRed X Y ps ps.length) { (lg.append t) with forced := (({ s.pinsN ps with next := lg.next + (14 + t.length) } : Sp.R15).putsN ((ps.take j).map Y)).forced } (({ s.pinsN ps with next := lg.next + (14 + t.length) } : Sp.R15).putsN ((ps.take j).map Y)) wq) (fun _ v107 _ => ps.length - (intOf v107).toNat)
              case atStart => exact ⟨0, by omega, rfl, rfl, HD3.out⟩
              case round =>
                clear HD3
                obtain ⟨j, hj, rfl, rfl, K3, lk3, m3, hm3, hD, hrow, hKg, hgb⟩ := hrel
                by_cases hlt : j < ps.length
                · have q3 : decide (j < ps.length) = true := by simpa using hlt
                  have x0 := hrow.cell j
                  rw [hHcj.out j hlt, getElem!_pos ps j hlt] at x0
                  have hmem := List.getElem_mem hlt
                  have hk32 := hH32.out ps[j] hmem
                  have hD4 := hD.below ((Below.refl wr.heap.size wr).drew)
                  have hrow4 : Blk wr.drew g 25 cs := hrow
                  obtain ⟨A, c, hlook, hAo, hR⟩ := hD4.look hk32 (fRed_all X Y hmem)
                  obtain ⟨y, hy⟩ := HSM2.out ps[j] hmem
                  obtain ⟨-, hYwf, hYn, hYt⟩ := HY.out ps[j] hmem y hy
                  have HPUT := Lib.hid (pk_put hD4.pk hYwf (c := c) hAo hR hYn hYt)
                  have c0 := hD4.act.cell 0
                  simp only [List.getElem?_toArray, List.getElem?_cons_zero] at c0
                  have hS := Lib.hid (And.intro hD4.ct (And.intro hD4.cm (And.intro c0 hlook)))
                  have HD := Lib.hid hD4
                  have hrow' := Lib.hid hrow4
                  have hKg' := Lib.hid hKg
                  clear hD hD4 hrow hrow4 hR hAo hYwf hYn hYt hy c0 hlook hmem hKg
                  go_upto_region 34 with fail
                  refine wp_region_noPanic ?_
                  refine R_begin (fun W => W.cell? ⟨w.heap.size, 0, none⟩ = some (ptr ga) ∧ W.cell? ⟨b + 1, 0, none⟩ = some (.map (some b)) ∧ W.cell? ⟨ga, 0, none⟩ = some (ptr gp) ∧ (Instr.lookup 109 (.map (some b)) (u32v ps[j]) false).run Tryz.prog W = .ok (pgV (Y ps[j]) A c) W) (fun i => i == 7 || i == 8) rfl ?_
                  refine R_tt 0 111 hS.out ?_
                  refine R_tt 1 112 hS.out ?_
                  refine R_tt 2 113 hS.out ?_
                  refine R_tt 3 114 hS.out ?_
                  refine R_tt 4 115 hS.out ?_
                  refine R_tt 5 116 hS.out ?_
                  refine R_tt 6 117 hS.out ?_
                  simp only [List.setIfInBounds_toArray, List.set_cons_zero, List.set_cons_succ]
                  refine R_call 7 118 (w' := wr.drew) rfl rfl (by rfl) (by kernel_rfl) ?_ HPUT.out ?_
                  · go_simp
                  rintro e w7 ⟨hk7, he, hp7⟩
                  generalize hcc : ((({ s.pinsN ps with next := lg.next + (14 + t.length) } : Sp.R15).putsN ((ps.take j).map Y)).put (Y ps[j]) (mayB (Y ps[j]))).1 = cc at he
                  subst he
                  refine ⟨_, rfl, fun h => by simp at h, ?_⟩
                  simp only [List.setIfInBounds_toArray, List.set_cons_zero, List.set_cons_succ]
                  have hD7 := Lib.hid (HD.out.step hk7 hp7 (fun _ hc => hc))
                  have hrow7 := Lib.hid ((hk7.block g (.inl hKg'.out)).trans hrow'.out)
                  have HCC := Lib.hid hcc
                  refine R_run 8 22 (v := .int .i64 cc) (w' := w7) rfl rfl (by rfl) (by kernel_rfl) ?_ (fun h => by simp at h) ?_
                  · first | (go_simp; done) | (go_simp; rfl)
                  simp only [List.setIfInBounds_toArray, List.set_cons_zero, List.set_cons_succ]
                  refine R_done (by kernel_rfl) (NoPanic.normal ?_) _
                  rename_i K9 hK9
                  refine hK9 _ _ ?_
                  clear hK9
                  clear hk7 hp7 HD hrow' HPUT hS x0 hcc
                  by_cases hc0 : cc = 0
                  · subst hc0
                    have HX7 := Lib.hid (show DoRow ly K w ga gd gl gp (b + 1) w.heap.size b g cs (ps.length + ps.length) (fRed X Y ps ps.length) { (lg.append t) with forced := (({ s.pinsN ps with next := lg.next + (14 + t.length) } : Sp.R15).putsN ((ps.take (j + 1)).map Y)).forced } (({ s.pinsN ps with next := lg.next + (14 + t.length) } : Sp.R15).putsN ((ps.take (j + 1)).map Y)) w7 by
                      rw [take_next ps j hlt, List.map_append, List.map_singleton, Sp.R15.putsN_add]
                      exact ⟨_, _, _, hm3, hD7.out, hrow7.out, .inl hKg'.out, hgb⟩)
                    clear hD7 hrow7
                    have q4 : (((0 : Nat) : Int) != 0) = false := by decide
                    go_wp2_with fail
                    go_roundw
                    case rel => exact ⟨j + 1, hlt, rfl, by go_num, HX7.out⟩
                    case measure => simp [intOf]; omega
                  · have q4 : ((cc : Int) != 0) = true := by simp; omega
                    go_wp2_with fail
                    refine do_leave hD7.out (fun w' => results_tmp2 rfl _ _ _) (fun w' ks k1 k2 k3 k4 => ⟨k3, .inr ⟨rfl, ps.length, ks, lg.append t, _, 0, cc, k1, fun x => (k2 x).trans (fRed_some X Y ps ps.length x), rfl, k4, HZZ.out, .inr (.inr ⟨rfl, rfl, HSM2.out, .inl ⟨j, hlt, _, rfl, HCC.out, hc0, rfl, rfl⟩⟩)⟩⟩)
                · have hjl : j = ps.length := by omega
                  subst hjl
                  have q3 : decide (ps.length < ps.length) = false := by simp
                  have HD := Lib.hid hD
                  clear hD hrow hKg hgb
                  go_wp2_with fail
                  refine do_leave HD.out (fun w' => results_tmp2 rfl _ _ _) (fun w' ks k1 k2 k3 k4 => ⟨k3, .inr ⟨rfl, ps.length, ks, lg.append t, _, lg.next, 0, k1, fun x => (k2 x).trans (fRed_some X Y ps ps.length x), rfl, k4, HZZ.out, .inr (.inr ⟨rfl, rfl, HSM2.out, .inr ⟨rfl, rfl, by rw [List.take_length]⟩⟩)⟩⟩)
            · exact absurd hbad (by have := hroom (s.pinsN ps).forced; omega)
            · exact absurd hbad (by have := HHL.out; omega)
  · have q1 : ((er : Int) != 0) = true := by simp; omega
    have hH := Lib.hid h
    go_wp2_with fail
    exact ⟨_, results_tmp2 rfl _ _ _, Kept.of_below hb12.out h.lt, .inl ⟨he, rfl, h.below hb12.out⟩⟩
end Go.Proofs.YtclpmkinjjhncaaGreat

/- What pins, unpins and puts in a row leave: plain laws. No program is named here. -/
namespace Go.Proofs.YtclpmkinjjhncaaGreat.Sp

def upG (g : Nat → RI) (k : Nat) (f : RI → RI) : Nat → RI := fun q => if q = k then f (g q) else g q
section
variable {g : Nat → RI} {ks : List Nat}
theorem getG (hg : ∀ k, (g k).page.id = k) (k : Nat) : getR? (ks.map g) k = if k ∈ ks then some (g k) else none := by
  induction ks with
  | nil => rfl
  | cons a t ih =>
    unfold getR? at ih ⊢
    rw [List.map_cons, List.find?_cons, hg a]
    by_cases e : a = k
    · subst e; simp
    · have e2 : (a == k) = false := by simpa using e
      rw [e2]
      simp only [ih, List.mem_cons]
      have e3 : ¬ k = a := fun h => e h.symm
      simp only [e3, false_or]
theorem hasG (hg : ∀ k, (g k).page.id = k) (k : Nat) : hasR (ks.map g) k = decide (k ∈ ks) := by
  induction ks with
  | nil => rfl
  | cons a t ih =>
    unfold hasR at ih ⊢
    rw [List.map_cons, List.any_cons, hg a, ih, Bool.eq_iff_iff]
    simp only [Bool.or_eq_true, beq_iff_eq, decide_eq_true_eq, List.mem_cons]
    exact ⟨fun h => h.imp Eq.symm id, fun h => h.imp Eq.symm id⟩
theorem upG_eq (hg : ∀ k, (g k).page.id = k) (k : Nat) (f : RI → RI) : upR (ks.map g) k f = ks.map (upG g k f) := by
  unfold upR
  rw [List.map_map]
  apply List.map_congr_left
  intro a _
  simp only [Function.comp, upG, hg]
theorem upG_id (hg : ∀ k, (g k).page.id = k) {k : Nat} {f : RI → RI} (hf : (f (g k)).page.id = k) : ∀ q, (upG g k f q).page.id = q := fun q => by
  unfold upG
  split
  · rename_i e; subst e; exact hf
  · exact hg q

theorem unpinG {s : R15} (hL : s.L = ks.map g) (hg : ∀ k, (g k).page.id = k) {k : Nat} (hk : k ∈ ks) (hp : (g k).pins ≠ 0) : s.unpin k = (0, { s with L := ks.map (upG g k (fun y => { y with pins := y.pins - 1 })) }) := by
  unfold R15.unpin
  rw [hL, getG hg, if_pos hk]
  simp only [if_neg hp, upG_eq hg]
theorem unpinsG : ∀ (ds : List Nat) (g : Nat → RI) (s : R15), s.L = ks.map g → (∀ k, (g k).page.id = k) → ds.Nodup → (∀ d ∈ ds, d ∈ ks ∧ (g d).pins = 1) → s.unpins ds = { s with L := ks.map (fun q => if q ∈ ds then { g q with pins := 0 } else g q) }
  | [], g, s, hL, _, _, _ => by
    simp only [List.not_mem_nil, if_false]
    show s = _
    rw [← hL]
  | d :: ds, g, s, hL, hg, hn, hd => by
    obtain ⟨hnd, hn⟩ := List.nodup_cons.1 hn
    obtain ⟨h1, h2⟩ := hd d List.mem_cons_self
    have hu := unpinG hL hg h1 (by omega)
    show (s.unpin d).2.unpins ds = _
    rw [hu]
    rw [unpinsG ds _ _ rfl (upG_id hg (hg d)) hn (fun q hq => ⟨(hd q (List.mem_cons_of_mem _ hq)).1, by
      unfold upG
      rw [if_neg (show ¬ q = d from fun e => hnd (by rw [← e]; exact hq))]
      exact (hd q (List.mem_cons_of_mem _ hq)).2⟩)]
    congr 1
    apply List.map_congr_left
    intro q _
    unfold upG
    by_cases e : q = d
    · subst e
      simp [h2]
    · simp [e]

theorem putG {s : R15} (hL : s.L = ks.map g) (hg : ∀ k, (g k).page.id = k) {x : Pg} (hk : x.id ∈ ks) (hp : (g x.id).pins ≠ 0) (hd : (g x.id).dirty = false) : s.put x true = (0, { s with L := ks.map (upG g x.id (fun y => ⟨x, y.pins, true, x.lsn⟩)) }) := by
  unfold R15.put
  rw [if_neg (by decide), hL, getG hg, if_pos hk]
  simp only [if_neg hp, upG_eq hg]
  congr 2
  apply List.map_congr_left
  intro q _
  unfold upG
  split
  · rename_i e; subst e; simp [hd]
  · rfl
theorem putsG {Y : Nat → Pg} (hY : ∀ k, (Y k).id = k) : ∀ (ds : List Nat) (g : Nat → RI) (s : R15), s.L = ks.map g → (∀ k, (g k).page.id = k) → ds.Nodup → (∀ d ∈ ds, d ∈ ks ∧ (g d).pins = 1 ∧ (g d).dirty = false ∧ mayB (Y d) = true) →
    s.putsN (ds.map Y) = { s with L := ks.map (fun q => if q ∈ ds then ⟨Y q, 1, true, (Y q).lsn⟩ else g q) }
  | [], g, s, hL, _, _, _ => by
    simp only [List.not_mem_nil, if_false]
    show s = _
    rw [← hL]
  | d :: ds, g, s, hL, hg, hn, hd => by
    obtain ⟨hnd, hn⟩ := List.nodup_cons.1 hn
    obtain ⟨h1, h2, h3, h4⟩ := hd d List.mem_cons_self
    have hu := putG (x := Y d) hL hg (by rw [hY]; exact h1) (by rw [hY]; omega) (by rw [hY]; exact h3)
    show ((s.put (Y d) (mayB (Y d))).2).putsN (ds.map Y) = _
    rw [h4, hu, hY]
    rw [putsG hY ds _ _ rfl (upG_id hg (hY d)) hn (fun q hq => by
      obtain ⟨a1, a2, a3, a4⟩ := hd q (List.mem_cons_of_mem _ hq)
      refine ⟨a1, ?_, ?_, a4⟩
      · unfold upG; rw [if_neg (show ¬ q = d from fun e => hnd (by rw [← e]; exact hq))]; exact a2
      · unfold upG; rw [if_neg (show ¬ q = d from fun e => hnd (by rw [← e]; exact hq))]; exact a3)]
    congr 1
    apply List.map_congr_left
    intro q _
    unfold upG
    by_cases e : q = d
    · subst e
      simp [h2]
    · simp [e]

/-- Every put of the row comes through. -/
theorem putsG_ok {Y : Nat → Pg} (hY : ∀ k, (Y k).id = k) {ds : List Nat} {g : Nat → RI} {s : R15} (hL : s.L = ks.map g) (hg : ∀ k, (g k).page.id = k) (hn : ds.Nodup) (hd : ∀ d ∈ ds, d ∈ ks ∧ (g d).pins = 1 ∧ (g d).dirty = false ∧ mayB (Y d) = true) {j : Nat} (hj : j < ds.length) :
    ((s.putsN ((ds.take j).map Y)).put (Y ds[j]) (mayB (Y ds[j]))).1 = 0 := by
  have hmem := List.getElem_mem hj
  rw [putsG hY (ds.take j) g s hL hg ((List.take_sublist j ds).nodup hn) (fun d h => hd d (List.mem_of_mem_take h))]
  obtain ⟨h1, h2, h3, h4⟩ := hd _ hmem
  have hnt := not_taken hn hj
  rw [h4, putG (g := fun q => if q ∈ ds.take j then ⟨Y q, 1, true, (Y q).lsn⟩ else g q) (ks := ks) rfl (fun k => by split; exact hY k; exact hg k) (by rw [hY]; exact h1) (by rw [hY, if_neg hnt]; omega) (by rw [hY, if_neg hnt]; exact h3)]

/-- Pages are pinned one behind the other, as long as there is room. -/
theorem pinsG : ∀ (ks hs : List Nat) (s : R15), s.L = hs.map (fun k => ⟨s.disk k, 1, false, 0⟩) → (∀ k, (s.disk k).id = k) → (hs ++ ks).Nodup → (hs ++ ks).length ≤ s.frames → (∀ k ∈ ks, 1 ≤ k ∧ k ≤ s.top) → s.pinsN ks = { s with L := (hs ++ ks).map (fun k => ⟨s.disk k, 1, false, 0⟩) }
  | [], hs, s, hL, _, _, _, _ => by
    show s = _
    rw [List.append_nil, ← hL]
  | k :: ks, hs, s, hL, hid, hn, hf, ht => by
    have hk := ht k List.mem_cons_self
    have hnk : k ∉ hs := fun h => (List.nodup_append.1 hn).2.2 k h k List.mem_cons_self rfl
    have hlen : s.L.length < s.frames := by rw [hL, List.length_map]; simp at hf; omega
    have hno : hasR s.L k = false := by rw [hL, hasG (g := fun k => ⟨s.disk k, 1, false, 0⟩) hid]; simpa using hnk
    have hp : s.pin k = (0, some (s.disk k), { s with L := (hs ++ [k]).map (fun k => ⟨s.disk k, 1, false, 0⟩) }) := by
      unfold R15.pin
      rw [if_neg (by simp [hno]), if_neg (by omega), if_neg (by omega)]
      unfold R15.room
      simp only [if_pos hlen]
      rw [if_neg (by simp)]
      congr 3
      have hpn := pinR_new (L := s.L) (x := s.disk k) (fun y hy => by
        rw [hL] at hy
        obtain ⟨q, hq, rfl⟩ := List.mem_map.1 hy
        show (s.disk q).id ≠ (s.disk k).id
        rw [hid, hid]
        exact fun e => hnk (by rw [← e]; exact hq))
      rw [hid] at hpn
      rw [hpn, hL, List.map_append]
      rfl
    show (s.pin k).2.2.pinsN ks = _
    rw [hp]
    have := pinsG ks (hs ++ [k]) { s with L := (hs ++ [k]).map (fun k => ⟨s.disk k, 1, false, 0⟩) } rfl hid (by simpa using hn) (by simpa using hf) (fun q hq => ht q (List.mem_cons_of_mem _ hq))
    rw [this]
    simp
end
end Go.Proofs.YtclpmkinjjhncaaGreat.Sp

/- Where Do comes to its end over a pool that is empty: plain laws. No program is named here. -/
namespace Go.Proofs.YtclpmkinjjhncaaGreat.Sp

abbrev oneG (s : R15) (k : Nat) : RI := ⟨s.disk k, 1, false, 0⟩
theorem pinG {s : R15} {hs : List Nat} (hL : s.L = hs.map (oneG s)) (hid : ∀ k, (s.disk k).id = k) {k : Nat} (hnk : k ∉ hs) (hf : hs.length < s.frames) (hk : 1 ≤ k ∧ k ≤ s.top) :
    s.pin k = (0, some (s.disk k), { s with L := (hs ++ [k]).map (oneG s) }) := by
  have hlen : s.L.length < s.frames := by rw [hL, List.length_map]; exact hf
  have hno : hasR s.L k = false := by rw [hL, hasG (g := oneG s) hid]; simpa using hnk
  unfold R15.pin
  rw [if_neg (by simp [hno]), if_neg (by omega), if_neg (by omega)]
  unfold R15.room
  simp only [if_pos hlen]
  rw [if_neg (by simp)]
  congr 3
  have hpn := pinR_new (L := s.L) (x := s.disk k) (fun y hy => by
    rw [hL] at hy
    obtain ⟨q, hq, rfl⟩ := List.mem_map.1 hy
    show (s.disk q).id ≠ (s.disk k).id
    rw [hid, hid]
    exact fun e => hnk (by rw [← e]; exact hq))
  rw [hid] at hpn
  rw [hpn, hL, List.map_append]
  rfl
theorem pinG_full {s : R15} {hs : List Nat} (hL : s.L = hs.map (oneG s)) (hid : ∀ k, (s.disk k).id = k) {k : Nat} (hnk : k ∉ hs) (hf : s.frames ≤ hs.length) (hk : 1 ≤ k ∧ k ≤ s.top) : s.pin k = (4, none, s) := by
  have hlen : ¬ s.L.length < s.frames := by rw [hL, List.length_map]; omega
  have hno : hasR s.L k = false := by rw [hL, hasG (g := oneG s) hid]; simpa using hnk
  have hfn : s.L.find? (fun x => x.pins == 0) = none := by
    rw [hL, List.find?_eq_none]
    intro x hx
    obtain ⟨q, _, rfl⟩ := List.mem_map.1 hx
    simp
  unfold R15.pin
  rw [if_neg (by simp [hno]), if_neg (by omega), if_neg (by omega)]
  unfold R15.room
  simp only [if_neg hlen, hfn]
  rw [if_pos (by decide)]

section
variable {lg lg' : Lg} {s s' : R15} {t : Bs} {ps ks : List Nat} {Y : Nat → Pg} {res : Nat → Option Pg} {i v c : Nat}
theorem pins_take (h0 : s.L = []) (hid : ∀ k, (s.disk k).id = k) (hn : ps.Nodup) (hk : ∀ k ∈ ps, 1 ≤ k ∧ k ≤ s.top) {j : Nat} (hj : j ≤ s.frames) (hj2 : j ≤ ps.length) : s.pinsN (ps.take j) = { s with L := (ps.take j).map (oneG s) } := by
  have := pinsG (ps.take j) [] s (by rw [h0]; rfl) hid (by rw [List.nil_append]; exact (List.take_sublist j ps).nodup hn) (by rw [List.nil_append, List.length_take]; omega) (fun k h => hk k (List.mem_of_mem_take h))
  rw [this, List.nil_append]

/-- There are enough frames: all is put. -/
theorem do_ok (h0 : s.L = []) (hid : ∀ k, (s.disk k).id = k) (hn : ps.Nodup) (hk : ∀ k ∈ ps, 1 ≤ k ∧ k ≤ s.top) (hf : ps.length ≤ s.frames) (hr : ∀ k ∈ ps, ∃ y, res k = some y) (hY : ∀ k, (Y k).id = k) (hm : ∀ k ∈ ps, mayB (Y k) = true)
    (hkn : ks.Nodup) (hkm : ∀ x, x ∈ ks ↔ x ∈ ps.take i) (h : DoStop lg s t ps Y res i lg' s' v c) :
    v = lg.next ∧ c = 0 ∧ lg' = lg.append t ∧ s'.unpins ks = { s with next := lg.next + (14 + t.length), L := ps.map (fun k => ⟨Y k, 0, true, (Y k).lsn⟩) } := by
  have hall := pins_take h0 hid hn hk hf (Nat.le_refl _)
  rw [List.take_length] at hall
  have hpt : ∀ d ∈ ps, d ∈ ps ∧ (oneG s d).pins = 1 ∧ (oneG s d).dirty = false ∧ mayB (Y d) = true := fun d hd => ⟨hd, rfl, rfl, hm d hd⟩
  obtain ⟨-, ⟨hi, h1, h2, -⟩ | ⟨-, -, -, -, -, k, hk1, hk2⟩ | ⟨hi, hlg, -, ⟨j, hj, s1, hs1, h1, h2, -⟩ | ⟨hc, hv, hs'⟩⟩⟩ := h
  · rw [pins_take h0 hid hn hk (by omega) (by omega), pinG (s := { s with L := (ps.take i).map (oneG s) }) rfl hid (not_taken hn hi) (by rw [List.length_take]; show min i ps.length < s.frames; omega) (hk _ (List.getElem_mem hi))] at h1
    exact absurd h1.symm h2
  · obtain ⟨y, hy⟩ := hr k hk1
    rw [hk2] at hy; cases hy
  · rw [hs1, hall, putsG_ok (ks := ps) (g := oneG s) hY rfl hid hn hpt hj] at h1
    exact absurd h1.symm h2
  · refine ⟨hv, hc, hlg, ?_⟩
    have hp := putsG (ks := ps) hY ps (oneG s) ({ s with next := lg.next + (14 + t.length), L := ps.map (oneG s) } : R15) rfl hid hn hpt
    rw [hs', hall]
    show (({ s with next := lg.next + (14 + t.length), L := ps.map (oneG s) } : R15).putsN (ps.map Y)).unpins ks = _
    rw [hp]
    have hmem : ∀ x, x ∈ ks ↔ x ∈ ps := fun x => by rw [hkm x, hi, List.take_length]
    rw [unpinsG (ks := ps) ks (fun q => if q ∈ ps then ⟨Y q, 1, true, (Y q).lsn⟩ else oneG s q) _ rfl (fun k => by split; exact hY k; exact hid k) hkn (fun d hd => ⟨(hmem d).1 hd, by rw [if_pos ((hmem d).1 hd)]⟩)]
    congr 1
    apply List.map_congr_left
    intro q hq
    simp only [if_pos hq, if_pos ((hmem q).2 hq)]
/-- There are too few: nothing is changed. -/
theorem do_full (h0 : s.L = []) (hid : ∀ k, (s.disk k).id = k) (hn : ps.Nodup) (hk : ∀ k ∈ ps, 1 ≤ k ∧ k ≤ s.top) (hf : s.frames < ps.length)
    (hkn : ks.Nodup) (hkm : ∀ x, x ∈ ks ↔ x ∈ ps.take i) (h : DoStop lg s t ps Y res i lg' s' v c) :
    v = 0 ∧ c = 4 ∧ lg' = lg ∧ s'.unpins ks = { s with L := (ps.take s.frames).map (fun k => ⟨s.disk k, 0, false, 0⟩) } := by
  have hfull : (s.pinsN (ps.take s.frames)).pin ps[s.frames] = (4, none, { s with L := (ps.take s.frames).map (oneG s) }) := by
    rw [pins_take h0 hid hn hk (Nat.le_refl _) (by omega)]
    exact pinG_full (s := { s with L := (ps.take s.frames).map (oneG s) }) rfl hid (not_taken hn hf) (by rw [List.length_take]; show s.frames ≤ min s.frames ps.length; omega) (hk _ (List.getElem_mem hf))
  obtain ⟨hz, h⟩ := h
  have hif : i ≤ s.frames := by
    rcases Nat.lt_or_ge s.frames i with h | h
    · have := hz s.frames hf h
      rw [hfull] at this
      cases this
    · exact h
  rcases h with ⟨hi, h1, h2, h3, hv, hlg⟩ | ⟨hi, -⟩ | ⟨hi, -⟩
  · rcases Nat.lt_or_ge i s.frames with hlt | hge
    · rw [pins_take h0 hid hn hk (by omega) (by omega), pinG (s := { s with L := (ps.take i).map (oneG s) }) rfl hid (not_taken hn hi) (by rw [List.length_take]; show min i ps.length < s.frames; omega) (hk _ (List.getElem_mem hi))] at h1
      exact absurd h1.symm h2
    · obtain rfl : i = s.frames := by omega
      rw [hfull] at h1 h3
      refine ⟨hv, h1.symm, hlg, ?_⟩
      rw [h3, unpinsG (ks := ps.take s.frames) ks (oneG s) _ rfl hid hkn (fun d hd => ⟨(hkm d).1 hd, rfl⟩)]
      congr 1
      apply List.map_congr_left
      intro q hq
      simp only [if_pos ((hkm q).2 hq)]
  · omega
  · omega

theorem pinsN_app (s : R15) (a b : List Nat) : s.pinsN (a ++ b) = (s.pinsN a).pinsN b := by simp [R15.pinsN]
theorem pinsN_stay : ∀ (b : List Nat) (s : R15), (∀ k ∈ b, s.pin k = (4, none, s)) → s.pinsN b = s
  | [], _, _ => rfl
  | k :: b, s, h => by
    show (s.pin k).2.2.pinsN b = s
    rw [h k List.mem_cons_self]
    exact pinsN_stay b s (fun q hq => h q (List.mem_cons_of_mem _ hq))
/-- How far pins come, with and without room. -/
theorem pins_any (h0 : s.L = []) (hid : ∀ k, (s.disk k).id = k) (hn : ps.Nodup) (hk : ∀ k ∈ ps, 1 ≤ k ∧ k ≤ s.top) {j : Nat} (hj : j ≤ ps.length) : s.pinsN (ps.take j) = { s with L := (ps.take (min j s.frames)).map (oneG s) } := by
  rcases Nat.le_total j s.frames with h | h
  · rw [Nat.min_eq_left h]
    exact pins_take h0 hid hn hk h hj
  · rw [Nat.min_eq_right h]
    have hsp : ps.take j = ps.take s.frames ++ (ps.take j).drop s.frames := by
      have := (List.take_append_drop s.frames (ps.take j)).symm
      rwa [List.take_take, Nat.min_eq_left h] at this
    have hnj : (ps.take s.frames ++ (ps.take j).drop s.frames).Nodup := by rw [← hsp]; exact (List.take_sublist j ps).nodup hn
    rw [hsp, pinsN_app, pins_take h0 hid hn hk (Nat.le_refl _) (by omega)]
    refine pinsN_stay _ _ (fun k hkm => ?_)
    exact pinG_full (s := { s with L := (ps.take s.frames).map (oneG s) }) rfl hid (fun hm => (List.nodup_append.1 hnj).2.2 k hm k hkm rfl) (by rw [List.length_take]; show s.frames ≤ min s.frames ps.length; omega) (hk k (List.mem_of_mem_take (List.mem_of_mem_drop hkm)))
theorem pins_few (h0 : s.L = []) (hid : ∀ k, (s.disk k).id = k) (hn : ps.Nodup) (hk : ∀ k ∈ ps, 1 ≤ k ∧ k ≤ s.top) {j : Nat} (hj : j ≤ ps.length) : ∀ x ∈ (s.pinsN (ps.take j)).L, x.pins < 1000000 := by
  rw [pins_any h0 hid hn hk hj]
  intro x hx
  obtain ⟨q, _, rfl⟩ := List.mem_map.1 hx
  show 1 < 1000000
  omega
theorem pins_page (h0 : s.L = []) (hid : ∀ k, (s.disk k).id = k) (hn : ps.Nodup) (hk : ∀ k ∈ ps, 1 ≤ k ∧ k ≤ s.top) {j : Nat} (hj : j < ps.length) {x : Pg} (hx : ((s.pinsN (ps.take j)).pin ps[j]).2.1 = some x) : x = s.disk ps[j] := by
  rw [pins_any h0 hid hn hk (Nat.le_of_lt hj)] at hx
  have hnt := not_taken hn hj
  rcases Nat.lt_or_ge j s.frames with h | h
  · rw [Nat.min_eq_left (Nat.le_of_lt h), pinG (s := { s with L := (ps.take j).map (oneG s) }) rfl hid hnt (by rw [List.length_take]; show min j ps.length < s.frames; omega) (hk _ (List.getElem_mem hj))] at hx
    injection hx with hx
    exact hx.symm
  · rw [Nat.min_eq_right h, pinG_full (s := { s with L := (ps.take s.frames).map (oneG s) }) rfl hid (fun hm => hnt (by
      have := (List.take_append_drop s.frames (ps.take j)).symm
      rw [List.take_take, Nat.min_eq_left h] at this
      rw [this]
      exact List.mem_append_left _ hm)) (by rw [List.length_take]; show s.frames ≤ min s.frames ps.length; omega) (hk _ (List.getElem_mem hj))] at hx
    cases hx
end
end Go.Proofs.YtclpmkinjjhncaaGreat.Sp

/- Package op: Redo of an op of fill or put that stands alone on its page. -/
namespace Go.Proofs.YtclpmkinjjhncaaGreat
open Go.RowKit

/-- What an op comes to on a page: no place, or a page. -/
def OpDid (o : Sp.Op) (x : Sp.Pg) (r : Option Sp.Pg) : Prop :=
  (o.kind = 6 ∧ 0 < o.rows.length ∧ x.rows.length + o.rows.length ≤ 1000000 ∧ r = some { x with rows := x.rows ++ o.rows }) ∨
  (o.kind = 2 ∧ o.at_ = (x.rows.length : Int) ∧ x.rows.length ≤ 1000000 ∧ r = some { x with rows := x.rows ++ [o.text] }) ∨
  (o.kind = 2 ∧ (x.rows.length : Int) < o.at_ ∧ r = none)

theorem redo_did {W : World} {G1 G2 : Foot} {x : Sp.Pg} {A L : Option Addr} {c cl lsn k : Nat} {l : List Sp.Op} {r : Option Sp.Pg}
    (hL : OpsAt G1 W L l) (hok : ∀ o ∈ l, o.Ok ∧ o.Short) (hn : l.length ≤ 1000000) (hnd : (l.map (·.page)).Nodup) (hk : k < l.length) (hmay : Sp.opMay l[k] = true) (hX : RowsAt G2 W A x.rows) (hA : OkAddr A) (hxm : mayB x = true) (hid : x.id = l[k].page) (hlsn : x.lsn < lsn)
    (hd : OpDid l[k] x r) (hres : ∀ y, r = some y → mayB { y with lsn := lsn } = true) :
    Calls Tryz.prog 42 #[pgV x A c, .int .u64 lsn, .slice L l.length cl] W fun e w' => ReAns x A c r lsn W e w' ∧ Below W.heap.size W w' := by
  have hone : ∀ j (hj : j < l.length), j ≠ k → l[j].page ≠ x.id := fun j hj hjk e => by
    rw [hid] at e
    have hp := List.pairwise_iff_getElem.1 hnd
    rcases Nat.lt_or_gt_of_ne hjk with h | h
    · exact hp j k (by simpa using hj) (by simpa using hk) h (by simpa using e)
    · exact hp k j (by simpa using hk) (by simpa using hj) h (by simpa using e.symm)
  rcases hd with ⟨h6, hpos, hln, hr⟩ | ⟨h2, hat, hln, hr⟩ | ⟨h2, hat, hr⟩
  · exact op_redo (f := 240) hL hok hn hk hone hmay hX hA hxm hid hlsn (.inr ⟨h6, rfl⟩) (fun A1 c1 B gp w1 v hp hR => (does_fill hp hR hpos hln).mono (fun e w' h => .inr ⟨_, hr, h⟩)) hres
  · exact op_redo (f := 234) hL hok hn hk hone hmay hX hA hxm hid hlsn (.inl ⟨h2, rfl⟩) (fun A1 c1 B gp w1 v hp _ => (does_put_end hp hat hln).mono (fun e w' h => .inr ⟨_, hr, h⟩)) hres
  · exact op_redo (f := 234) hL hok hn hk hone hmay hX hA hxm hid hlsn (.inl ⟨h2, rfl⟩) (fun A1 c1 B gp w1 v hp _ => (does_put_none hp hat).mono (fun e w' h => .inl ⟨hr, h.1, h.2⟩)) hres
end Go.Proofs.YtclpmkinjjhncaaGreat

/- The ops of law ActFrames: plain laws. No program is named here. -/
namespace Go.Proofs.YtclpmkinjjhncaaGreat

def Sp.fillOp (q : Nat) : Sp.Op := ⟨6, q, 0, 0, [], [[120]], 0, 0, 0⟩
def Sp.fills (n : Nat) : List Sp.Op := (List.range n).map (fun i => Sp.fillOp (i + 1))
def Sp.nest : Sp.Rec := ⟨6, 1, 0, 0, 0, 0, 0, [], 0, 0, 0, 0⟩
theorem Sp.fills_len (n : Nat) : (Sp.fills n).length = n := by simp [Sp.fills]
theorem Sp.fills_pages (n : Nat) : (Sp.fills n).map (·.page) = (List.range n).map (· + 1) := by
  unfold Sp.fills
  rw [List.map_map]
  rfl
theorem Sp.fills_rec {n : Nat} (h1 : 1 ≤ n) (h8 : n ≤ 8) : (Sp.record Sp.nest (Sp.fills n)).2 = 0 := by
  have : n = 1 ∨ n = 2 ∨ n = 3 ∨ n = 4 ∨ n = 5 ∨ n = 6 ∨ n = 7 ∨ n = 8 := by omega
  rcases this with rfl | rfl | rfl | rfl | rfl | rfl | rfl | rfl <;> (show _ = _; exact (by kernel_rfl))
theorem Sp.fills_may {n : Nat} {o : Sp.Op} (h : o ∈ Sp.fills n) (h8 : n ≤ 8) : Sp.opMay o = true ∧ o.kind = 6 ∧ o.rows = [[120]] := by
  obtain ⟨i, hi, rfl⟩ := List.mem_map.1 h
  have hi : i < 8 := by have := List.mem_range.1 hi; omega
  refine ⟨?_, rfl, rfl⟩
  have : i = 0 ∨ i = 1 ∨ i = 2 ∨ i = 3 ∨ i = 4 ∨ i = 5 ∨ i = 6 ∨ i = 7 := by omega
  rcases this with rfl | rfl | rfl | rfl | rfl | rfl | rfl | rfl <;> (show _ = _; exact (by kernel_rfl))
theorem Sp.fills_sorted (n : Nat) : Sp.sorted ((Sp.fills n).map (·.page)) = (List.range n).map (· + 1) := by
  rw [Sp.fills_pages]
  have h := Sp.sorted_spec ((List.range n).map (· + 1))
  have hp : ((List.range n).map (· + 1)).Pairwise (· ≤ ·) := by
    rw [List.pairwise_map]
    exact List.pairwise_lt_range.imp (fun h => by omega)
  exact List.Perm.eq_of_pairwise (le := (· ≤ ·)) (fun a b _ _ h1 h2 => Nat.le_antisymm h1 h2) h.2 hp h.1
theorem Sp.fills_nodup (n : Nat) : ((List.range n).map (· + 1)).Nodup := by
  unfold List.Nodup
  rw [List.pairwise_map]
  exact List.pairwise_lt_range.imp (fun h => by omega)
theorem Sp.fills_step (n : Nat) (j : Nat) (h0 : 0 < j) (hj : j < ((List.range n).map (· + 1)).length) : ((List.range n).map (· + 1))[j]! ≠ ((List.range n).map (· + 1))[j - 1]! := by
  rw [List.length_map, List.length_range] at hj
  rw [getElem!_pos _ j (by simpa using hj), getElem!_pos _ (j - 1) (by simp; omega)]
  simp
  omega
theorem Sp.fills_ok {n : Nat} (h8 : n ≤ 8) : ∀ o ∈ Sp.fills n, o.Ok ∧ o.Short := fun o h => by
  obtain ⟨i, hi, rfl⟩ := List.mem_map.1 h
  have hi : i < n := List.mem_range.1 hi
  exact ⟨⟨by show 6 < 256; omega, by show i + 1 < _; omega, by show _ ≤ (0 : Int); omega, by show (0 : Int) < _; omega, by show _ ≤ (0 : Int); omega, by show (0 : Int) < _; omega, by show 0 < 256; omega, by show 0 < 256; omega, by show 0 < _; omega⟩, by show 0 + 2 * 1 + 1 ≤ 900000; omega⟩
theorem Sp.nest_ok : Sp.nest.Ok := ⟨by decide, by decide, by decide, by decide, by decide, by decide, by decide, by decide, by decide, by decide⟩
end Go.Proofs.YtclpmkinjjhncaaGreat
