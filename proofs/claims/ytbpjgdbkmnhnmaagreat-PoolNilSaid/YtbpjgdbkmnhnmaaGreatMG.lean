/- The walks of package disk: Read, where nothing is loose. -/
import Derived.Test.YtbpjgdbkmnhnmaaGreatMF
import Derived.RangeFuncNested
import Derived.RangeFuncBound
import Derived.RangeFuncCalls
import Derived.RangeFuncLeaves

namespace Go.Proofs.YtbpjgdbkmnhnmaaGreat
open Go.RowKit

theorem backward_any (p : Option Addr) (n c : Nat) (w : World) :
    Calls Tryz.prog 129 #[.slice p n c] w fun e w' => e = .returned (.func (.func 148) #[] #[.pointer (some ⟨w.heap.size, 0, none⟩)]) ∧ w' = w.alloc (.cells #[.slice p n c] 114) := by
  go_enter Tryz.func129, Tryz.ntmps129
  go_wp2_with fail
  go_ret
  exact ⟨rfl, rfl⟩

theorem secs_at {l : List Sp.Bs} (h : ∀ s ∈ l, s.length = 128) {i : Nat} (hi : i < l.length) {j : Nat} (hj : j < 128) : (secs l)[i * 128 + j]? = (bcs l[i])[j]? := by
  have e : l = l.take i ++ l[i] :: l.drop (i + 1) := by rw [← List.drop_eq_getElem_cons hi, List.take_append_drop]
  have h1 : (secs (l.take i)).length = i * 128 := by
    rw [secs_length (fun x hx => h x (List.mem_of_mem_take hx)), List.length_take, Nat.min_eq_left (by omega)]
  have h2 : (bcs l[i]).length = 128 := by rw [bcs_length]; exact h _ (List.getElem_mem hi)
  have e2 : secs l = secs (l.take i) ++ (bcs l[i] ++ secs (l.drop (i + 1))) := by
    conv => lhs; rw [e]
    rw [secs_append]; rfl
  rw [e2, List.getElem?_append_right (by omega), h1, Nat.add_sub_cancel_left, List.getElem?_append_left (by omega)]

theorem putObj_other (w : World) (D : Nat) (o : Obj) (b : Nat) (h : b ≠ D) : (w.putObj D o).heap[b]? = w.heap[b]? := World.putObj_heap_other h

set_option maxRecDepth 100000 in
set_option maxHeartbeats 2000000 in
theorem backward_none {n : Nat} {w : World} {B : Nat} {p : Option Addr} {c : Nat} (hc : w.cell? ⟨B, 0, none⟩ = some (.slice p 0 c)) (hB : B < w.heap.size) :
    SeqStopsA Fence.wide n Tryz.prog 148 #[.pointer (some ⟨B, 0, none⟩)] (fun _ : Empty => #[undef, undef]) (fun _ => True) (fun _ => False) 0 w := by
  intro l J Jx W hW hJ hJx hY h0
  have hcW := (hW.cell (p := ⟨B, 0, none⟩) hB).trans hc
  refine callsIn_wide.2 ?_
  clear hY hJ hJx
  simp only [List.append_toArray, List.cons_append, List.nil_append]
  go_enter Tryz.func148, Tryz.ntmps148
  go_wp2_with fail
  go_loop [3] (fun i => i = .int .i64 (-1)) (fun _ => 0)
  case atStart => rfl
  case round =>
    subst hrel
    go_wp2_with fail
    go_end0
    exact ⟨⟨_, rfl⟩, [], h0⟩

set_option maxRecDepth 100000 in
set_option maxHeartbeats 4000000 in
theorem disk_read {F : Foot} {w : World} {g : Nat} {d : Sp.Dk} (h : IsDk F w g d) (hf : d.fuse ≠ 0) (hl : d.loose = []) (k : Nat) (hk : k < d.sure.length) :
    Calls Tryz.prog 81 #[.pointer (some ⟨g, 0, none⟩), .int .i64 k] w fun e w' => e = .returned (.tuple #[str d.sure[k], .int .i64 0]) ∧ Below w.heap.size w w' := by
  obtain ⟨h1, h2, a, v, h3, h4, h5, h6⟩ := h
  have HM := Lib.hid fun W (h : Blk W g 116 (dkCells (.slice (some ⟨a, 0, none⟩) d.sure.length d.sure.length) v d.fuse)) => disk_may h h1.some_ hf
  have HD := Lib.hid h3
  have H4 := Lib.hid h4
  have hlt := h3.lt
  have hs := h1.sure _ (List.getElem_mem hk)
  have HS := Lib.hid hs
  obtain ⟨p, c, rfl⟩ : ∃ p c, v = .slice p 0 c := by
    rw [hl] at h5
    rcases h5.2 with ⟨rfl, e⟩ | ⟨b, cap, _, e, _⟩
    · exact ⟨none, 0, rfl⟩
    · exact ⟨_, _, e⟩
  have d1 : decide ((k : Int) < 0) = false := by simp
  have d2 : decide ((d.sure.length : Int) ≤ k) = false := by rw [decide_eq_false_iff_not]; omega
  clear h3 h4 h5 hl hs
  refine (callsIn_wide (n := 3)).1 ?_
  refine callsIn_of_wp_marks Tryz.func81 rfl trivial ?_ rfl
  rw [wpIn_wide]
  simp only [Tryz.ntmps81, List.size_toArray, List.length_cons, List.length_nil, Nat.reduceAdd, Nat.reduceSub, Array.replicate_succ, Array.replicate_zero, List.push_toArray, List.append_toArray, List.nil_append, List.cons_append]
  go_wp2_with fail
  obtain ⟨W0, hW0⟩ : ∃ W0, ((w.alloc (.cells #[.int .i64 k] 3)).alloc (.cells #[.string ⟨#[]⟩] 9)).alloc (.cells #[.int .i64 0] 31) = W0 := ⟨_, rfl⟩
  have b3 : Blk W0 w.heap.size 3 #[.int .i64 k] := by rw [← hW0]; exact ((Blk.new w _ _).alloc _).alloc _
  have b4 : Blk W0 (w.heap.size + 1) 9 #[.string ⟨#[]⟩] := by
    rw [← hW0]
    have := (Blk.new (w.alloc (.cells #[.int .i64 k] 3)) 9 #[.string ⟨#[]⟩]).alloc (.cells #[.int .i64 0] 31)
    rwa [World.size_alloc] at this
  have b5 : Blk W0 (w.heap.size + 1 + 1) 31 #[.int .i64 0] := by
    rw [← hW0]
    have := Blk.new ((w.alloc (.cells #[.int .i64 k] 3)).alloc (.cells #[.string ⟨#[]⟩] 9)) 31 #[.int .i64 0]
    rwa [World.size_alloc, World.size_alloc] at this
  have hbw0 : Below w.heap.size w W0 := by rw [← hW0]; exact (((Below.refl _ w).alloc (Nat.le_refl _) _).alloc (by simp) _).alloc (by simp; omega) _
  have hs0 : W0.heap.size = w.heap.size + 3 := by rw [← hW0]; simp
  rw [hW0]
  clear hW0
  have HS0 := Lib.hid hs0
  have hs0' : w.heap.size + 3 ≤ W0.heap.size := by omega
  clear hs0
  have hD0 := HD.out.below hbw0 hlt
  have hA0 := H4.out.below hbw0 H4.out.lt
  refine (HM.out _ hD0).mono ?_
  rintro e w1 ⟨rfl, hw⟩
  subst w1
  have c3 := b3.cell 0
  have c0 := hD0.cell 0
  have c1 := hD0.cell 1
  simp only [dkCells, List.getElem?_toArray, List.getElem?_cons_succ, List.getElem?_cons_zero] at c0 c1 c3
  have B3 := Lib.hid b3
  have B4 := Lib.hid b4
  have B5 := Lib.hid b5
  have HD0 := Lib.hid hD0
  have HA0 := Lib.hid hA0
  clear b3 b4 b5 hD0 hA0
  go_wp2_with fail
  go_quiet (fail)
  go_wp2_with fail
  refine (backward_any _ _ _ _).mono ?_
  rintro e w2 ⟨rfl, rfl⟩
  go_wp2_with fail
  have hbq : Below w.heap.size w (W0.drewN nq) := below_drewN' hbw0 nq
  have hBox := Blk.new (W0.drewN nq) 114 #[.slice p 0 c]
  have HB3 := Lib.hid ((B3.out.drewN nq).alloc (.cells #[.slice p 0 c] 114))
  have HB4 := Lib.hid ((B4.out.drewN nq).alloc (.cells #[.slice p 0 c] 114))
  have HB5 := Lib.hid ((B5.out.drewN nq).alloc (.cells #[.slice p 0 c] 114))
  have HDq := Lib.hid ((HD0.out.drewN nq).alloc (.cells #[.slice p 0 c] 114))
  have HAq := Lib.hid ((HA0.out.drewN nq).alloc (.cells #[.slice p 0 c] 114))
  have hbw1 := hbq.alloc hbq.size (.cells #[.slice p 0 c] 114)
  have hcB := hBox.cell 0
  have hBlt := hBox.lt
  have hsz : w.heap.size + 3 < ((W0.drewN nq).alloc (.cells #[.slice p 0 c] 114)).heap.size := by simp; omega
  rw [show (W0.drewN nq).heap.size = W0.heap.size from rfl] at hcB hBlt
  clear hBox hbq B3 B4 B5 HD0 HA0 c0 c1 c3
  generalize (W0.drewN nq).alloc (.cells #[.slice p 0 c] 114) = W1 at *
  rw [← wpIn_wide (n := 3)]
  refine wpIn_rangeFunc_ownF (α := Empty) rfl (by decide) (gf := 148) (lb := #[.pointer (some ⟨W0.heap.size, 0, none⟩)]) rfl trivial (enters_of Tryz.func148 (by kernel_rfl) rfl)
    (seqStopsA_iff.1 (backward_none hcB hBlt)) (fun h k => walksK_t h k) walksK_b (Below.refl _ _) (fun x => x.elim) (fun _ W => Below W1.heap.size W1 W) (fun _ _ _ => False) (ownFrom_below (Nat.le_refl _) (Nat.le_refl _)) (fun _ _ _ _ _ h => h.elim) (Below.refl _ _) (fun x => x.elim) (fun _ x => x.elim) (fun _ _ x => x.elim) ?done (fun _ _ _ _ _ _ h => h.elim)
  case done =>
    intro D xs W hD _ hI hK
    have hB3 := HB3.out.below hI (by omega)
    have hB4 := HB4.out.below hI (by omega)
    have hB5 := HB5.out.below hI (by omega)
    have hDW := HDq.out.below hI (by omega)
    have hAW := HAq.out.below hI HAq.out.lt
    have hbW := hbw1.trans (hI.mono hbw1.size)
    have HK := Lib.hid hK
    clear hI hK
    go_wp2_with fail
    have c3 := hB3.cell 0
    have c0 := hDW.cell 0
    simp only [dkCells, List.getElem?_toArray, List.getElem?_cons_zero] at c0 c3
    have hcv : (convert 22 9 (.slice (some ⟨a, k * 128, none⟩) 128 128)).run Tryz.prog W.drew = .ok (str d.sure[k]) W.drew := by
      refine run_bytes_back W.drew _ _ 5 a (k * 128) 128 128 d.sure[k] Tryz.underlying22 Tryz.underlying5 Tryz.underlying9 HS.out.symm (fun j hj => ?_)
      refine (hAW.cell (k * 128 + j)).trans ?_
      rw [List.getElem?_toArray]
      have := secs_at h1.sure hk (show j < 128 by rw [HS.out] at hj; exact hj)
      rw [this, bcs_at _ _ hj]
    have hS0 : (W.drew.cell? ⟨g, 0, none⟩ = some (.slice (some ⟨a, 0, none⟩) d.sure.length d.sure.length)) ∧ (W.drew.cell? ⟨w.heap.size, 0, none⟩ = some (.int .i64 k)) ∧
        ((convert 22 9 (.slice (some ⟨a, k * 128, none⟩) 128 128)).run Tryz.prog W.drew = .ok (str d.sure[k]) W.drew) := ⟨c0, c3, hcv⟩
    have HAW := Lib.hid hAW
    have HB4 := Lib.hid hB4
    have HB5 := Lib.hid hB5
    clear c0 c3 hcv hAW hB3 hDW hB4 hB5
    refine wp_region_noPanic ?_
    refine R_begin (fun W => (W.cell? ⟨g, 0, none⟩ = some (.slice (some ⟨a, 0, none⟩) d.sure.length d.sure.length)) ∧ (W.cell? ⟨w.heap.size, 0, none⟩ = some (.int .i64 k)) ∧
        ((convert 22 9 (.slice (some ⟨a, k * 128, none⟩) 128 128)).run Tryz.prog W = .ok (str d.sure[k]) W)) (fun j => j == 8 || j == 9) (by kernel_rfl) ?_
    refine R_take 0 39 (v := ?_) rfl rfl (by rfl) (by kernel_rfl) (fun _ _ _ h => h) hS0 ?_ ?_
    rotate_left
    · intro w hSw; obtain ⟨hS1, hS2, hS3⟩ := hSw; go_simp; (try with_reducible rfl)
    simp only [List.setIfInBounds_toArray, List.set_cons_zero, List.set_cons_succ]
    refine R_take 1 40 (v := ?_) rfl rfl (by rfl) (by kernel_rfl) (fun _ _ _ h => h) hS0 ?_ ?_
    rotate_left
    · intro w hSw; obtain ⟨hS1, hS2, hS3⟩ := hSw; go_simp; (try with_reducible rfl)
    simp only [List.setIfInBounds_toArray, List.set_cons_zero, List.set_cons_succ]
    refine R_take 2 41 (v := ?_) rfl rfl (by rfl) (by kernel_rfl) (fun _ _ _ h => h) hS0 ?_ ?_
    rotate_left
    · intro w hSw; obtain ⟨hS1, hS2, hS3⟩ := hSw; go_simp; (try with_reducible rfl)
    simp only [List.setIfInBounds_toArray, List.set_cons_zero, List.set_cons_succ]
    refine R_take 3 42 (v := ?_) rfl rfl (by rfl) (by kernel_rfl) (fun _ _ _ h => h) hS0 ?_ ?_
    rotate_left
    · intro w hSw; obtain ⟨hS1, hS2, hS3⟩ := hSw; go_simp; (try with_reducible rfl)
    simp only [List.setIfInBounds_toArray, List.set_cons_zero, List.set_cons_succ]
    refine R_take 4 43 (v := ?_) rfl rfl (by rfl) (by kernel_rfl) (fun _ _ _ h => h) hS0 ?_ ?_
    rotate_left
    · intro w hSw; obtain ⟨hS1, hS2, hS3⟩ := hSw; go_simp; (try with_reducible rfl)
    simp only [List.setIfInBounds_toArray, List.set_cons_zero, List.set_cons_succ]
    refine R_take 5 44 (v := ?_) rfl rfl (by rfl) (by kernel_rfl) (fun _ _ _ h => h) hS0 ?_ ?_
    rotate_left
    · intro w hSw; obtain ⟨hS1, hS2, hS3⟩ := hSw; go_simp; (try with_reducible rfl)
    simp only [List.setIfInBounds_toArray, List.set_cons_zero, List.set_cons_succ]
    refine R_take 6 45 (v := ?_) rfl rfl (by rfl) (by kernel_rfl) (fun _ _ _ h => h) hS0 ?_ ?_
    rotate_left
    · intro w hSw; obtain ⟨hS1, hS2, hS3⟩ := hSw; go_simp; (try with_reducible rfl)
    simp only [List.setIfInBounds_toArray, List.set_cons_zero, List.set_cons_succ]
    refine R_take 7 46 (v := ?_) rfl rfl (by rfl) (by kernel_rfl) (fun _ _ _ h => h) hS0 ?_ ?_
    rotate_left
    · intro w hSw; obtain ⟨hS1, hS2, hS3⟩ := hSw; go_simp; (try with_reducible rfl)
    simp only [List.setIfInBounds_toArray, List.set_cons_zero, List.set_cons_succ]
    have f4 := HB4.out.drew.frozen 0
    have hc4 := HB4.out.drew.cell 0
    have f5 := HB5.out.frozen 0
    have hc5 := HB5.out.cell 0
    simp only [List.getElem?_toArray, List.getElem?_cons_zero] at hc4 hc5
    refine R_store 8 (n := .skip) (w' := W.drew.setCell ⟨w.heap.size + 1, 0, none⟩ (str d.sure[k])) rfl rfl (by rfl) (by kernel_rfl) (by go_simp) (.inl rfl) (fun h => absurd h (by decide)) ?_
    refine R_store 9 (n := .skip) (w' := (W.drew.setCell ⟨w.heap.size + 1, 0, none⟩ (str d.sure[k])).setCell ⟨w.heap.size + 1 + 1, 0, none⟩ (.int .i64 0)) rfl rfl (by rfl) (by kernel_rfl) (run_op_store _ _ _ ⟨w.heap.size + 1 + 1, 0, none⟩ _ rfl rfl rfl (by go_simp)) (.inl rfl) (fun h => absurd h (by decide)) ?_
    refine R_done (by kernel_rfl) (NoPanic.normal ?_) _
    go_wp2_with fail
    have b4 := ((HB4.out.drew.set_ 0 (str d.sure[k])).far (p := ⟨w.heap.size + 1 + 1, 0, none⟩) (by simp) (.int .i64 0))
    have b5 := ((HB5.out.drew.far (p := ⟨w.heap.size + 1, 0, none⟩) (by simp) (str d.sure[k])).set_ 0 (.int .i64 0))
    have hKD : ((W.drew.setCell ⟨w.heap.size + 1, 0, none⟩ (str d.sure[k])).setCell ⟨w.heap.size + 1 + 1, 0, none⟩ (.int .i64 0)).heap[D]? = some (.deferred (some [])) := by
      rw [Below.heap_setCell _ _ _ D (show D ≠ w.heap.size + 1 + 1 by omega), Below.heap_setCell _ _ _ D (show D ≠ w.heap.size + 1 by omega)]
      exact HK.out
    have hb7 : Below w.heap.size w ((W.drew.setCell ⟨w.heap.size + 1, 0, none⟩ (str d.sure[k])).setCell ⟨w.heap.size + 1 + 1, 0, none⟩ (.int .i64 0)) := (hbW.drew.setCell (by simp) _).setCell (by simp; omega) _
    clear hS0 HAW HB4 HB5 f4 f5 hc4 hc5
    generalize (W.drew.setCell ⟨w.heap.size + 1, 0, none⟩ (str d.sure[k])).setCell ⟨w.heap.size + 1 + 1, 0, none⟩ (.int .i64 0) = W7 at *
    refine ⟨by simp, .inl ⟨_, _, rfl, run_takeDeferred hKD, ?_⟩⟩
    have b4' : Blk (W7.putObj D (.deferred none)) (w.heap.size + 1) 9 #[str d.sure[k]] := b4.keep (putObj_other _ _ _ _ (by omega))
    have b5' : Blk (W7.putObj D (.deferred none)) (w.heap.size + 1 + 1) 31 #[.int .i64 0] := b5.keep (putObj_other _ _ _ _ (by omega))
    have hb8 : Below w.heap.size w (W7.putObj D (.deferred none)) := hb7.grown (grownBy_putObj' _ _ _) hb7.size (fun q e => by cases e; omega)
    have c4 := b4'.cell 0
    have c5 := b5'.cell 0
    simp only [List.getElem?_toArray, List.getElem?_cons_zero] at c4 c5
    refine ⟨.tuple #[str d.sure[k], .int .i64 0], ?_, rfl, hb8⟩
    simp [results, Tryz.results81, go_sem, c4, c5]
end Go.Proofs.YtbpjgdbkmnhnmaaGreat

/- The walks of package twin: placed, inside, clear, Read. -/
namespace Go.Proofs.YtbpjgdbkmnhnmaaGreat
open Go.RowKit

set_option maxRecDepth 100000 in
set_option maxHeartbeats 2000000 in
theorem twin_placed {F : Foot} {w : World} {g : Nat} {d : Sp.Dk} (h : IsDk F w g d) (at_ base : Nat) (h1 : at_ + 33 ≤ d.sure.length) (h2 : base ≤ d.sure.length) :
    Calls Tryz.prog 72 #[.pointer (some ⟨g, 0, none⟩), .int .i64 at_, .int .i64 base] w fun e w' => e = .returned (.int .i64 0) ∧ w' = w := by
  have hfew := h.wf.few
  have HL := Lib.hid (disk_len h)
  have d1 : decide ((at_ : Int) < 0) = false := by simp
  have d2 : decide ((base : Int) < 0) = false := by simp
  have d3 : decide ((d.sure.length : Int) - 33 < at_) = false := by rw [decide_eq_false_iff_not]; omega
  have d4 : decide ((d.sure.length : Int) < base) = false := by rw [decide_eq_false_iff_not]; omega
  clear h
  go_enter Tryz.func72, Tryz.ntmps72
  go_wp2_with fail
  refine HL.out.mono ?_
  rintro e w1 ⟨rfl, hw⟩
  subst w1
  go_wp2_with fail
  refine HL.out.mono ?_
  rintro e w1 ⟨rfl, hw⟩
  subst w1
  go_wp2_with fail
  go_ret
  exact ⟨rfl, rfl⟩

/-- A page's home lies on the disk, and apart from the area. -/
def Sp.inside (n at_ base page : Nat) : Prop := base + page * 4 + 4 ≤ n ∧ at_ + 33 ≤ base + page * 4

set_option maxRecDepth 100000 in
set_option maxHeartbeats 2000000 in
theorem twin_inside {F : Foot} {w : World} {g : Nat} {d : Sp.Dk} (h : IsDk F w g d) (at_ base page : Nat) (hp : page < 4294967296) (hi : Sp.inside d.sure.length at_ base page) :
    Calls Tryz.prog 125 #[.pointer (some ⟨g, 0, none⟩), .int .i64 at_, .int .i64 base, .int .u32 page] w fun e w' => e = .returned (.bool true) ∧ w' = w := by
  have hfew := h.wf.few
  obtain ⟨i1, i2⟩ := hi
  have HL := Lib.hid (disk_len h)
  have d1 : decide ((base : Int) + page * 4 + 4 ≤ d.sure.length) = true := by rw [decide_eq_true_eq]; omega
  have d2 : decide ((at_ : Int) + 33 ≤ base + page * 4) = true := by rw [decide_eq_true_eq]; omega
  clear h
  go_enter Tryz.func125, Tryz.ntmps125
  go_wp2_with fail
  refine HL.out.mono ?_
  rintro e w1 ⟨rfl, hw⟩
  subst w1
  go_wp2_with fail
  go_ret
  exact ⟨rfl, rfl⟩

/-- A row of noughts. -/
def zrow (n : Nat) : Array Value := (List.replicate n (Value.int .u8 0)).toArray

theorem u8_info2 : (Tryz.prog.info? 5).map (fun i => (i.zero, i.size, i.bytes)) = some (some (.int .u8 0), 1, 1) := by kernel_rfl

set_option maxRecDepth 100000 in
theorem run_zmake (n : Nat) (hn : n ≤ 1000000) (W : World) : (Instr.makeSlice 22 (.int .i64 (n : Int)) (.int .i64 (n : Int))).run Tryz.prog W = .ok (.slice (some ⟨W.heap.size, 0, none⟩) n n) (W.alloc (.cells (zrow n) 5)) := by
  obtain ⟨i0, hi, hz0, hz1, hz2⟩ := info_parts u8_info2
  have := run_make_rowN (P := Tryz.prog) 22 5 i0 (.int .u8 0) Tryz.underlying22 hi hz0 .i64 .i64 n n (Nat.le_refl _) (by rw [hz2]; omega) (by omega) W
  rw [this, hz1, Nat.mul_one]
  rw [show (Value.int IntKind.u8 0).cells = #[.int .u8 0] from rfl, madeCells_one]
  rfl

theorem run_zback (n : Nat) (W : World) : (convert 22 9 (.slice (some ⟨W.heap.size, 0, none⟩) n n)).run Tryz.prog (W.alloc (.cells (zrow n) 5)) = .ok (str (Sp.zeros n)) (W.alloc (.cells (zrow n) 5)) := by
  refine run_bytes_back _ _ _ 5 W.heap.size 0 n n (Sp.zeros n) Tryz.underlying22 Tryz.underlying5 Tryz.underlying9 (by simp [Sp.zeros]) (fun j hj => ?_)
  have hj' : j < n := by simpa [Sp.zeros] using hj
  refine ((Blk.new W 5 (zrow n)).cell (0 + j)).trans ?_
  simp [zrow, Sp.zeros, hj']

set_option maxRecDepth 100000 in
set_option maxHeartbeats 2000000 in
theorem twin_clear (w : World) :
    Calls Tryz.prog 78 #[] w fun e w' => e = .returned (str (Sp.zeros 128)) ∧ Below w.heap.size w w' := by
  have hmk := run_zmake 128 (by omega)
  have hbk := run_zback 128
  change ∀ W, (Instr.makeSlice 22 (.int .i64 128) (.int .i64 128)).run _ W = _ at hmk
  obtain ⟨z, hz⟩ : ∃ z, Sp.zeros 128 = z := ⟨_, rfl⟩
  rw [hz] at hbk ⊢
  clear hz
  go_enter Tryz.func78, Tryz.ntmps78
  go_wp2_with fail
  go_ret
  exact ⟨rfl, (Below.refl _ w).alloc (Nat.le_refl _) _⟩

/-- A page's bytes on the disk. -/
def Sp.pageAt (s : List Sp.Bs) (at_ : Nat) : Sp.Bs := ((s.drop at_).take 4).flatten

set_option maxRecDepth 100000 in
set_option maxHeartbeats 2000000 in
theorem twin_read {F : Foot} {w : World} {g : Nat} {d : Sp.Dk} (h : IsDk F w g d) (hf : d.fuse ≠ 0) (hl : d.loose = []) (base page : Nat) (hp : page < 4294967296) (hi : base + page * 4 + 4 ≤ d.sure.length) :
    Calls Tryz.prog 34 #[.pointer (some ⟨g, 0, none⟩), .int .i64 base, .int .u32 page] w fun e w' => e = .returned (.tuple #[str (Sp.pageAt d.sure (base + page * 4)), .int .i64 0]) ∧ Below w.heap.size w w' := by
  have hfew := h.wf.few
  have hsec := h.wf.sure
  have HL := Lib.hid (disk_len h)
  have HR := Lib.hid fun W (h : IsDk F W g d) => disk_read h hf hl
  have HD := Lib.hid h
  have HSC := Lib.hid hsec
  have d1 : decide ((base : Int) < 0) = false := by simp
  have d2 : decide ((d.sure.length : Int) < base) = false := by rw [decide_eq_false_iff_not]; omega
  have d3 : decide ((d.sure.length : Int) - 4 < base + page * 4) = false := by rw [decide_eq_false_iff_not]; omega
  clear h hf hl hsec
  go_enter Tryz.func34, Tryz.ntmps34
  go_wp2_with fail
  refine HL.out.mono ?_
  rintro e w1 ⟨rfl, hw⟩
  subst w1
  go_wp2_with fail
  refine HL.out.mono ?_
  rintro e w1 ⟨rfl, hw⟩
  subst w1
  go_wp2_with fail
  go_loopw [8, 9, 10, 11, 31] (fun s _ _ _ i wr => ∃ k : Nat, k ≤ 4 ∧ i = .int .i64 k ∧ s = str ((d.sure.drop (base + page * 4)).take k).flatten ∧ Below w.heap.size w wr) (fun _ _ _ _ i _ => 4 - (intOf i).toNat)
  case atStart => exact ⟨0, by omega, rfl, by simp, Below.refl _ _⟩
  case round =>
    obtain ⟨k, hk, rfl, rfl, hb⟩ := hrel
    by_cases hlt : k < 4
    · have hR := HR.out _ (HD.out.below hb) (base + page * 4 + k) (by omega)
      have htk : ((d.sure.drop (base + page * 4)).take (k + 1)).flatten = ((d.sure.drop (base + page * 4)).take k).flatten ++ d.sure[base + page * 4 + k] := by
        rw [List.take_succ_eq_append_getElem (by rw [List.length_drop]; omega), List.flatten_append]
        simp
      have hlen : (((d.sure.drop (base + page * 4)).take k).flatten).length ≤ 1000 := by
        have := flatten_length_all (fun x : Sp.Bs => x) 128 ((d.sure.drop (base + page * 4)).take k) (fun x hx => HSC.out x (List.mem_of_mem_drop (List.mem_of_mem_take hx)))
        rw [List.map_id'] at this
        rw [this, List.length_take]
        have := Nat.min_le_left k (d.sure.drop (base + page * 4)).length
        omega
      have hlen2 := HSC.out _ (List.getElem_mem (show base + page * 4 + k < d.sure.length by omega))
      have hlen3 : (d.sure[base + page * 4 + k]).length ≤ 128 := by omega
      have HTK := Lib.hid htk
      have HRR := Lib.hid hR
      clear htk hR hlen2
      generalize d.sure[base + page * 4 + k] = s1 at *
      generalize ((d.sure.drop (base + page * 4)).take k).flatten = s0 at *
      go_wp2_with fail
      refine HRR.out.mono ?_
      rintro e w1 ⟨rfl, hb1⟩
      go_wp2_with fail
      go_roundw
      case rel => exact ⟨k + 1, by omega, by go_num, by rw [HTK.out, str_append], hb.trans (hb1.mono hb.size)⟩
      case measure => simp [intOf]; omega
    · obtain rfl : k = 4 := by omega
      go_wp2_with fail
      go_ret2
      exact ⟨rfl, hb⟩
end Go.Proofs.YtbpjgdbkmnhnmaaGreat

/- The walks of package twin: the calls that write and sync (closures), one by one. -/
namespace Go.Proofs.YtbpjgdbkmnhnmaaGreat
open Go.RowKit

/-- What a call of twin's does to a disk. -/
inductive Sp.TAct
  | wr (k : Nat) (s : Sp.Bs)
  | sync

def Sp.Dk.act (d : Sp.Dk) : Sp.TAct → Sp.Dk
  | .wr k s => d.put k s
  | .sync => d.synced
def Sp.Dk.acts (d : Sp.Dk) (l : List Sp.TAct) : Sp.Dk := l.foldl Sp.Dk.act d
def Sp.TAct.ok (n : Nat) : Sp.TAct → Prop
  | .wr k s => k < n ∧ s.length = 128
  | .sync => True

/-- A pointer to a variable of its own. -/
abbrev ptr (b : Nat) : Value := .pointer (some ⟨b, 0, none⟩)

/-- A function value that does this to the disk in block g; its variables lie in G. -/
def IsAct (G : Foot) (w : World) (g : Nat) (v : Value) : Sp.TAct → Prop
  | .wr k s => (∃ b0 b1 b2 b3 p t j, v = .func (.func 126) #[] #[ptr b0, ptr b1, ptr b2, ptr b3] ∧ (G b0 ∧ G b1 ∧ G b2 ∧ G b3) ∧ Blk w b0 33 #[ptr g] ∧ Blk w b1 3 #[.int .i64 (k : Nat)] ∧
        Blk w b2 75 #[.int .u32 (p : Nat), str t] ∧ Blk w b3 3 #[.int .i64 (j : Nat)] ∧ j < 4 ∧ t.length = 512 ∧ s = (t.drop (j * 128)).take 128) ∨
      (∃ b0 b1 b2, v = .func (.func 127) #[] #[ptr b0, ptr b1, ptr b2] ∧ (G b0 ∧ G b1 ∧ G b2) ∧ Blk w b0 33 #[ptr g] ∧ Blk w b1 3 #[.int .i64 (k : Nat)] ∧ Blk w b2 9 #[str s])
  | .sync => v = .func (.func 63) #[ptr g] #[]

theorem IsAct.keep {G : Foot} {w w' : World} {g : Nat} {v : Value} {a : Sp.TAct} (h : IsAct G w g v a) (hk : ∀ b, G b → w'.heap[b]? = w.heap[b]?) : IsAct G w' g v a := by
  cases a with
  | sync => exact h
  | wr k s =>
    rcases h with ⟨b0, b1, b2, b3, p, t, j, e, ⟨g0, g1, g2, g3⟩, h0, h1, h2, h3, rest⟩ | ⟨b0, b1, b2, e, ⟨g0, g1, g2⟩, h0, h1, h2⟩
    · exact .inl ⟨b0, b1, b2, b3, p, t, j, e, ⟨g0, g1, g2, g3⟩, h0.keep (hk _ g0), h1.keep (hk _ g1), h2.keep (hk _ g2), h3.keep (hk _ g3), rest⟩
    · exact .inr ⟨b0, b1, b2, e, ⟨g0, g1, g2⟩, h0.keep (hk _ g0), h1.keep (hk _ g1), h2.keep (hk _ g2)⟩
theorem IsAct.mono {G G' : Foot} {w : World} {g : Nat} {v : Value} {a : Sp.TAct} (h : IsAct G w g v a) (hG : ∀ b, G b → G' b) : IsAct G' w g v a := by
  cases a with
  | sync => exact h
  | wr k s =>
    rcases h with ⟨b0, b1, b2, b3, p, t, j, e, ⟨g0, g1, g2, g3⟩, rest⟩ | ⟨b0, b1, b2, e, ⟨g0, g1, g2⟩, rest⟩
    · exact .inl ⟨b0, b1, b2, b3, p, t, j, e, ⟨hG _ g0, hG _ g1, hG _ g2, hG _ g3⟩, rest⟩
    · exact .inr ⟨b0, b1, b2, e, ⟨hG _ g0, hG _ g1, hG _ g2⟩, rest⟩

/-- What a call of such a value says. -/
abbrev ActPost (F : Foot) (w : World) (g : Nat) (d' : Sp.Dk) : Ending → World → Prop := fun e w' => ∃ F', e = .returned (.int .i64 0) ∧ IsDk F' w' g d' ∧ Turns F F' w w'

set_option maxRecDepth 100000 in
set_option maxHeartbeats 2000000 in
theorem marks1_any {F : Foot} {w : World} {g : Nat} {d : Sp.Dk} (h : IsDk F w g d) (k : Nat) (s : Sp.Bs) (hk : k < d.sure.length) (hs : s.length = 128) (hf : d.fuse ≠ 0) (hl : d.loose.length ≤ 1000000)
    {b0 b1 b2 : Nat} (h0 : Blk w b0 33 #[ptr g]) (h1 : Blk w b1 3 #[.int .i64 (k : Nat)]) (h2 : Blk w b2 9 #[str s]) :
    Calls Tryz.prog 127 #[ptr b0, ptr b1, ptr b2] w (ActPost F w g (d.put k s)) := by
  have HW := Lib.hid (disk_write h k s hk hs hf hl)
  have c0 := h0.cell 0
  have c1 := h1.cell 0
  have c2 := h2.cell 0
  simp only [List.getElem?_toArray, List.getElem?_cons_zero] at c0 c1 c2
  clear h h0 h1 h2 hk hs
  go_enter Tryz.func127, Tryz.ntmps127
  go_wp2_with fail
  refine HW.out.mono ?_
  rintro e w1 ⟨F', rfl, hD, ht⟩
  have H1 := Lib.hid hD
  have H2 := Lib.hid ht
  clear hD ht
  go_wp2_with fail
  go_ret
  exact ⟨F', rfl, H1.out, H2.out⟩

set_option maxRecDepth 100000 in
set_option maxHeartbeats 4000000 in
theorem homes1_any {F : Foot} {w : World} {g : Nat} {d : Sp.Dk} (h : IsDk F w g d) (k p j : Nat) (t : Sp.Bs) (hk : k < d.sure.length) (ht : t.length = 512) (hj : j < 4) (hf : d.fuse ≠ 0) (hl : d.loose.length ≤ 1000000)
    {b0 b1 b2 b3 : Nat} (h0 : Blk w b0 33 #[ptr g]) (h1 : Blk w b1 3 #[.int .i64 (k : Nat)]) (h2 : Blk w b2 75 #[.int .u32 (p : Nat), str t]) (h3 : Blk w b3 3 #[.int .i64 (j : Nat)]) (hb : ¬ F b0 ∧ ¬ F b1 ∧ ¬ F b2 ∧ ¬ F b3) :
    Calls Tryz.prog 126 #[ptr b0, ptr b1, ptr b2, ptr b3] w (ActPost F w g (d.put k ((t.drop (j * 128)).take 128))) := by
  have hsl : ((t.drop (j * 128)).take 128).length = 128 := by rw [List.length_take, List.length_drop]; omega
  have HW := Lib.hid fun W (h : IsDk F W g d) => disk_write h k ((t.drop (j * 128)).take 128) hk hsl hf hl
  have c0 := h0.cell 0
  have c1 := h1.cell 0
  have c2 := h2.cell 1
  have c3 := h3.cell 0
  simp only [List.getElem?_toArray, List.getElem?_cons_zero, List.getElem?_cons_succ] at c0 c1 c2 c3
  have HD := Lib.hid h
  have w1 : IntKind.i64.wrap ((j : Int) * 128) = j * 128 := IntWalk.i64_in _ (by omega)
  have w2 : IntKind.i64.wrap ((j : Int) + 1) = j + 1 := IntWalk.i64_in _ (by omega)
  have w3 : IntKind.i64.wrap (((j : Int) + 1) * 128) = (j + 1) * 128 := IntWalk.i64_in _ (by omega)
  have hcut : ∀ W, (Instr.slice 9 (str t) (some (.int .i64 ((j : Int) * 128))) (some (.int .i64 (((j : Int) + 1) * 128))) none).run Tryz.prog W = Result.ok (str ((t.drop (j * 128)).take 128)) W := fun W => by
    have := run_slice_string (P := Tryz.prog) (w := W) 9 ⟨t.toArray⟩ .i64 .i64 ((j : Int) * 128) (((j : Int) + 1) * 128) Tryz.underlying9 (by omega) (by omega) (by rw [str_size]; omega)
    rw [this, str_extract]
    congr 3
    rw [show (((j : Int) * 128).toNat) = j * 128 by omega, show ((((j : Int) + 1) * 128).toNat) - j * 128 = 128 by omega]
  have HC := Lib.hid hcut
  have H0 := Lib.hid h0.drew
  have H1 := Lib.hid h1.drew
  have H2 := Lib.hid h2.drew
  have H3 := Lib.hid h3.drew
  clear h h0 h1 h2 h3 hk hsl hcut ht
  go_enter Tryz.func126, Tryz.ntmps126
  go_wp2_with fail
  have hS0 : (w.drew.cell? ⟨b0, 0, none⟩ = some (ptr g)) ∧ (w.drew.cell? ⟨b1, 0, none⟩ = some (.int .i64 k)) ∧ (w.drew.cell? ⟨b2, 1, none⟩ = some (str t)) ∧ (w.drew.cell? ⟨b3, 0, none⟩ = some (.int .i64 j)) := ⟨c0, c1, c2, c3⟩
  refine R_begin (fun W => (W.cell? ⟨b0, 0, none⟩ = some (ptr g)) ∧ (W.cell? ⟨b1, 0, none⟩ = some (.int .i64 k)) ∧ (W.cell? ⟨b2, 1, none⟩ = some (str t)) ∧ (W.cell? ⟨b3, 0, none⟩ = some (.int .i64 j))) (fun _ => false) (by kernel_rfl) ?_
  refine R_take 0 5 (v := ?_) rfl rfl (by rfl) (by kernel_rfl) (fun _ _ _ h => h) hS0 ?_ ?_
  rotate_left
  · intro w hSw; obtain ⟨hS1, hS2, hS3, hS4⟩ := hSw; go_simp; (try with_reducible rfl)
  simp only [List.setIfInBounds_toArray, List.set_cons_zero, List.set_cons_succ]
  refine R_take 1 6 (v := ?_) rfl rfl (by rfl) (by kernel_rfl) (fun _ _ _ h => h) hS0 ?_ ?_
  rotate_left
  · intro w hSw; obtain ⟨hS1, hS2, hS3, hS4⟩ := hSw; go_simp; (try with_reducible rfl)
  simp only [List.setIfInBounds_toArray, List.set_cons_zero, List.set_cons_succ]
  refine R_take 2 7 (v := ?_) rfl rfl (by rfl) (by kernel_rfl) (fun _ _ _ h => h) hS0 ?_ ?_
  rotate_left
  · intro w hSw; obtain ⟨hS1, hS2, hS3, hS4⟩ := hSw; go_simp; (try with_reducible rfl)
  simp only [List.setIfInBounds_toArray, List.set_cons_zero, List.set_cons_succ]
  refine R_take 3 8 (v := ?_) rfl rfl (by rfl) (by kernel_rfl) (fun _ _ _ h => h) hS0 ?_ ?_
  rotate_left
  · intro w hSw; obtain ⟨hS1, hS2, hS3, hS4⟩ := hSw; go_simp; (try with_reducible rfl)
  simp only [List.setIfInBounds_toArray, List.set_cons_zero, List.set_cons_succ]
  refine R_take 4 9 (v := ?_) rfl rfl (by rfl) (by kernel_rfl) (fun _ _ _ h => h) hS0 ?_ ?_
  rotate_left
  · intro w hSw; obtain ⟨hS1, hS2, hS3, hS4⟩ := hSw; go_simp; (try with_reducible rfl)
  simp only [List.setIfInBounds_toArray, List.set_cons_zero, List.set_cons_succ]
  refine R_take 5 10 (v := .int .i64 ((j : Int) * 128)) rfl rfl (by rfl) (by kernel_rfl) (fun _ _ _ h => h) hS0 (fun W hSw => by obtain ⟨hS1, hS2, hS3, hS4⟩ := hSw; go_simp) ?_
  simp only [List.setIfInBounds_toArray, List.set_cons_zero, List.set_cons_succ]
  refine R_take 6 11 (v := ?_) rfl rfl (by rfl) (by kernel_rfl) (fun _ _ _ h => h) hS0 ?_ ?_
  rotate_left
  · intro w hSw; obtain ⟨hS1, hS2, hS3, hS4⟩ := hSw; go_simp; (try with_reducible rfl)
  simp only [List.setIfInBounds_toArray, List.set_cons_zero, List.set_cons_succ]
  refine R_take 7 12 (v := .int .i64 ((j : Int) + 1)) rfl rfl (by rfl) (by kernel_rfl) (fun _ _ _ h => h) hS0 (fun W hSw => by obtain ⟨hS1, hS2, hS3, hS4⟩ := hSw; go_simp) ?_
  simp only [List.setIfInBounds_toArray, List.set_cons_zero, List.set_cons_succ]
  refine R_take 8 13 (v := .int .i64 (((j : Int) + 1) * 128)) rfl rfl (by rfl) (by kernel_rfl) (fun _ _ _ h => h) hS0 (fun W hSw => by obtain ⟨hS1, hS2, hS3, hS4⟩ := hSw; go_simp) ?_
  simp only [List.setIfInBounds_toArray, List.set_cons_zero, List.set_cons_succ]
  refine R_take 9 14 (v := str ((t.drop (j * 128)).take 128)) rfl rfl (by rfl) (by kernel_rfl) (fun _ _ _ h => h) hS0 (fun W _ => run_op_slice _ _ _ _ rfl rfl rfl rfl ((run_sliceAt_string (P := Tryz.prog) (w := W) _ _ _ _ _ Tryz.underlying9).trans (HC.out W))) ?_
  simp only [List.setIfInBounds_toArray, List.set_cons_zero, List.set_cons_succ]
  refine R_call 10 15 (f := 104) (args := #[ptr g, .int .i64 k, str ((t.drop (j * 128)).take 128)]) (w' := w.drew) rfl rfl (by rfl) (by kernel_rfl) (by go_simp) (HW.out w.drew (HD.out.keep (fun _ _ => rfl))) (fun e w'' hR => ?_)
  obtain ⟨F', rfl, hD, htt⟩ := hR
  have hS1 : (w''.cell? ⟨b0, 0, none⟩ = some (ptr g)) ∧ (w''.cell? ⟨b1, 0, none⟩ = some (.int .i64 k)) ∧ (w''.cell? ⟨b2, 1, none⟩ = some (str t)) ∧ (w''.cell? ⟨b3, 0, none⟩ = some (.int .i64 j)) := by
    obtain ⟨n0, n1, n2, n3⟩ := hb
    exact ⟨(H0.out.turns htt n0).cell 0, (H1.out.turns htt n1).cell 0, (H2.out.turns htt n2).cell 1, (H3.out.turns htt n3).cell 0⟩
  refine ⟨_, rfl, fun _ => hS1, ?_⟩
  simp only [List.setIfInBounds_toArray, List.set_cons_zero, List.set_cons_succ]
  refine R_run 11 4 (v := .int .i64 0) (w' := w'') rfl rfl (by rfl) (by kernel_rfl) (by clear hS1; go_simp) (fun _ => hS1) ?_
  simp only [List.setIfInBounds_toArray, List.set_cons_zero, List.set_cons_succ]
  refine R_done (by kernel_rfl) ?_ _
  have H4 := Lib.hid hD
  have H5 : Hid (Turns F F' w w'') := Lib.hid (⟨htt.os, htt.tape, htt.output, htt.size, htt.block, htt.foot⟩)
  clear hD htt hS1
  go_wp2_with fail
  go_ret
  exact ⟨F', rfl, H4.out, H5.out⟩
end Go.Proofs.YtbpjgdbkmnhnmaaGreat

/- The walks of package twin: steps. -/
namespace Go.Proofs.YtbpjgdbkmnhnmaaGreat
open Go.RowKit

namespace Sp
theorem act_fuse (d : Dk) (a : TAct) (h : d.fuse = -1) : (d.act a).fuse = -1 := by
  cases a <;> simp [Dk.act, Dk.put, Dk.synced, burn, h]
theorem act_sure (d : Dk) (a : TAct) : (d.act a).sure.length = d.sure.length := by
  cases a <;> simp [Dk.act, Dk.put, Dk.synced, Dk.view]
theorem act_loose (d : Dk) (a : TAct) : (d.act a).loose.length ≤ d.loose.length + 1 := by
  cases a <;> simp [Dk.act, Dk.put, Dk.synced]
theorem acts_snoc (d : Dk) (l : List TAct) (a : TAct) : d.acts (l ++ [a]) = (d.acts l).act a := by simp [Dk.acts]
theorem acts_app (d : Dk) (l m : List TAct) : d.acts (l ++ m) = (d.acts l).acts m := by simp [Dk.acts]
theorem acts_fuse (d : Dk) (h : d.fuse = -1) : ∀ l, (d.acts l).fuse = -1 := fun l => by
  induction l generalizing d with
  | nil => exact h
  | cons a l ih => exact ih (d.act a) (act_fuse d a h)
theorem acts_sure (d : Dk) : ∀ l, (d.acts l).sure.length = d.sure.length := fun l => by
  induction l generalizing d with
  | nil => rfl
  | cons a l ih => exact (ih (d.act a)).trans (act_sure d a)
theorem acts_loose (d : Dk) : ∀ l, (d.acts l).loose.length ≤ d.loose.length + l.length := fun l => by
  induction l generalizing d with
  | nil => exact Nat.le_refl _
  | cons a l ih =>
    have h1 := ih (d.act a)
    have h2 := act_loose d a
    show (Dk.acts (d.act a) l).loose.length ≤ _
    rw [List.length_cons]
    omega
end Sp

/-- A list of such values. -/
def IsActs (G : Foot) (w : World) (g : Nat) (fs : List Value) (as_ : List Sp.TAct) : Prop :=
  fs.length = as_.length ∧ ∀ (i : Nat) (v : Value) (a : Sp.TAct), fs[i]? = some v → as_[i]? = some a → IsAct G w g v a

theorem IsActs.nil (G : Foot) (w : World) (g : Nat) : IsActs G w g [] [] := ⟨rfl, fun i v a h => by simp at h⟩
theorem IsActs.app {G : Foot} {w : World} {g : Nat} {fs hs : List Value} {as_ bs : List Sp.TAct} (h : IsActs G w g fs as_) (k : IsActs G w g hs bs) : IsActs G w g (fs ++ hs) (as_ ++ bs) := by
  refine ⟨by simp [h.1, k.1], fun i v a hv ha => ?_⟩
  rcases Nat.lt_or_ge i fs.length with hi | hi
  · rw [List.getElem?_append_left hi] at hv
    rw [List.getElem?_append_left (by rw [← h.1]; exact hi)] at ha
    exact h.2 i v a hv ha
  · rw [List.getElem?_append_right hi] at hv
    rw [List.getElem?_append_right (by rw [← h.1]; exact hi), ← h.1] at ha
    exact k.2 _ v a hv ha
theorem IsActs.one {G : Foot} {w : World} {g : Nat} {v : Value} {a : Sp.TAct} (h : IsAct G w g v a) : IsActs G w g [v] [a] := by
  refine ⟨rfl, fun i v' a' hv ha => ?_⟩
  cases i with
  | zero => simp at hv ha; subst hv ha; exact h
  | succ i => simp at hv
theorem IsActs.keep {G : Foot} {w w' : World} {g : Nat} {fs : List Value} {as_ : List Sp.TAct} (h : IsActs G w g fs as_) (hk : ∀ b, G b → w'.heap[b]? = w.heap[b]?) : IsActs G w' g fs as_ := ⟨h.1, fun i v a hv ha => (h.2 i v a hv ha).keep hk⟩
theorem IsActs.mono {G G' : Foot} {w : World} {g : Nat} {fs : List Value} {as_ : List Sp.TAct} (h : IsActs G w g fs as_) (hG : ∀ b, G b → G' b) : IsActs G' w g fs as_ := ⟨h.1, fun i v a hv ha => (h.2 i v a hv ha).mono hG⟩

set_option maxRecDepth 100000 in
set_option maxHeartbeats 4000000 in
theorem twin_steps {F G : Foot} {w : World} {g : Nat} {d : Sp.Dk} (h : IsDk F w g d) (hf : d.fuse = -1) {A : Option Addr} {c : Nat} {fs : List Value} {as_ : List Sp.TAct} (hR : Reads G w 1 A fs.length fs)
    (hA : IsActs G w g fs as_) (hG : Apart w F G) (hok : ∀ a ∈ as_, a.ok d.sure.length) (hn : d.loose.length + as_.length ≤ 1000000) :
    Calls Tryz.prog 77 #[.slice A fs.length c] w (ActPost F w g (d.acts as_)) := by
  have HD := Lib.hid h
  have HF := Lib.hid hf
  have HR := Lib.hid hR
  have HA := Lib.hid hA
  have HG := Lib.hid hG
  have HOK := Lib.hid hok
  have HLEN := Lib.hid hA.1
  have hlen : fs.length ≤ 1000000 := by rw [hA.1]; omega
  clear h hf hR hA hG hok
  go_enter Tryz.func77, Tryz.ntmps77
  go_wp2_with fail
  go_loopw [4, 5, 8] (fun _ _ i wr => ∃ (k : Nat) (F' : Foot), k ≤ fs.length ∧ i = .int .i64 k ∧ IsDk F' wr g (d.acts (as_.take k)) ∧ Turns F F' w wr) (fun _ _ i _ => fs.length - (intOf i).toNat)
  case atStart => exact ⟨0, F, by omega, rfl, by simpa [Sp.Dk.acts] using HD.out, Turns.refl _ _⟩
  case round =>
    obtain ⟨k, F1, hk, rfl, hD, ht⟩ := hrel
    by_cases hlt : k < fs.length
    · have hka : k < as_.length := by rw [← HLEN.out]; exact hlt
      have hsn : Hid (d.acts (as_.take (k + 1)) = (d.acts (as_.take k)).act as_[k]) := Lib.hid (by
        rw [List.take_succ_eq_append_getElem hka, Sp.acts_snoc])
      have hG1 := ht.apart HG.out
      obtain ⟨b, o, u, rfl, _, _, hu, hc⟩ := (HR.out.turns ht HG.out).at_ hlt
      have hAk := (HA.out.2 k u as_[k] hu (List.getElem?_eq_getElem hka)).keep (ht.keep HG.out)
      have hokk := HOK.out _ (List.getElem_mem hka)
      have hfu : (d.acts (as_.take k)).fuse ≠ 0 := by rw [Sp.acts_fuse d HF.out]; decide
      have hsu := Sp.acts_sure d (as_.take k)
      have hlo : (d.acts (as_.take k)).loose.length ≤ 1000000 := by
        have h1 := Sp.acts_loose d (as_.take k)
        rw [List.length_take] at h1
        have := Nat.min_le_right k as_.length
        omega
      have hmeas : k + 1 ≤ fs.length := hlt
      generalize hak : as_[k] = a at *
      cases a with
      | sync =>
        have e : u = _ := hAk
        subst e
        have HC := Lib.hid (disk_sync hD hfu hlo)
        have HT := Lib.hid ht
        clear hak hD ht hAk hu hsu hG1 hokk
        go_wp2_with fail
        refine HC.out.mono ?_
        rintro e w1 ⟨F2, rfl, hD1, _, ht1⟩
        have HD1 := Lib.hid hD1
        have HT1 := Lib.hid (HT.out.trans ht1)
        clear hD1 ht1
        go_wp2_with fail
        go_roundw
        case rel => exact ⟨k + 1, F2, hmeas, by go_num, by rw [hsn.out]; exact HD1.out, HT1.out⟩
        case measure => simp [intOf]; omega
      | wr q s =>
        obtain ⟨ok1, ok2⟩ := hokk
        rcases hAk with ⟨b0, b1, b2, b3, p, t, j, rfl, ⟨g0, g1, g2, g3⟩, h0, h1, h2, h3, hj, ht5, rfl⟩ | ⟨b0, b1, b2, rfl, ⟨g0, g1, g2⟩, h0, h1, h2⟩
        · have HC := Lib.hid (homes1_any hD q p j t (by rw [hsu]; exact ok1) ht5 hj hfu hlo h0 h1 h2 h3 ⟨(hG1 _ g0).2, (hG1 _ g1).2, (hG1 _ g2).2, (hG1 _ g3).2⟩)
          have HT := Lib.hid ht
          clear hak hD ht hu hsu hG1 h0 h1 h2 h3 ht5 ok2
          go_wp2_with fail
          refine HC.out.mono ?_
          rintro e w1 ⟨F2, rfl, hD1, ht1⟩
          have HD1 := Lib.hid hD1
          have HT1 := Lib.hid (HT.out.trans ht1)
          clear hD1 ht1
          go_wp2_with fail
          go_roundw
          case rel => exact ⟨k + 1, F2, hmeas, by go_num, by rw [hsn.out]; exact HD1.out, HT1.out⟩
          case measure => simp [intOf]; omega
        · have HC := Lib.hid (marks1_any hD q s (by rw [hsu]; exact ok1) ok2 hfu hlo h0 h1 h2)
          have HT := Lib.hid ht
          clear hak hD ht hu hsu hG1 h0 h1 h2 ok2
          go_wp2_with fail
          refine HC.out.mono ?_
          rintro e w1 ⟨F2, rfl, hD1, ht1⟩
          have HD1 := Lib.hid hD1
          have HT1 := Lib.hid (HT.out.trans ht1)
          clear hD1 ht1
          go_wp2_with fail
          go_roundw
          case rel => exact ⟨k + 1, F2, hmeas, by go_num, by rw [hsn.out]; exact HD1.out, HT1.out⟩
          case measure => simp [intOf]; omega
    · obtain rfl : k = fs.length := by omega
      rw [HLEN.out, List.take_length] at hD
      have HD1 := Lib.hid hD
      have HT1 := Lib.hid ht
      clear hD ht
      go_wp2_with fail
      go_ret
      exact ⟨F1, rfl, HD1.out, HT1.out⟩
end Go.Proofs.YtbpjgdbkmnhnmaaGreat
