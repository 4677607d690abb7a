/- The walks of package view that PurgeNil comes to. -/
import Derived.Test.YtcciodpchdijgaaGreatHead
import Derived.Test.YtcciodpchdijgaaGreatMapF
import Derived.Test.YtcciodpchdijgaaGreatShelfV
import Derived.Laws.ResultCell
import Derived.Carry
namespace Go.Proofs.YtcciodpchdijgaaGreat
open Go.RowKit

theorem results_cell1V {fn : Func} {p : Tmp} {ty : TypeId} (h : fn.results = #[.cell p ty]) (tmps : Array Value) (P : Program) (w : World) :
    (results fn tmps).run P w = ((asAddr (tmps.getD p undef)).run P w).andThen fun a w₁ => ((loadVar ty a).run P w₁).andThen fun v w₂ => .ok v w₂ := by
  simp only [results, h]
  simp [Sem.run_bind, Result.andThen]
  split
  · split <;> assumption
  · rfl
set_option maxRecDepth 100000 in
theorem view_new (w : World) : Calls Tryz.prog 31 #[] w fun e w' => e = .returned (.pointer (some ⟨w.heap.size + 1, 0, none⟩)) ∧ w' = (w.alloc (.map #[] 0)).alloc (.cells #[.map (some w.heap.size)] 179) := by
  have hmm := @run_makeMap Tryz.prog
  go_enter Tryz.func31, Tryz.ntmps31
  go_wp2_with fail
  go_ret
  exact ⟨rfl, rfl⟩
set_option maxRecDepth 100000 in
theorem view_made {w : World} {g r : Nat} (hB : Blk w g 179 #[.map (some r)]) : Calls Tryz.prog 92 #[.pointer (some ⟨g, 0, none⟩)] w fun e w' => e = .returned (.bool true) ∧ w' = w := by
  have h0 := hB.cell 0
  simp only [List.getElem?_toArray, List.getElem?_cons_zero] at h0
  clear hB
  have hne := fun w => run_neq_map_nil (P := Tryz.prog) w 177 _ _ (some r) Tryz.underlying177
  go_enter Tryz.func92, Tryz.ntmps92
  go_wp2_with fail
  go_ret
  exact ⟨rfl, rfl⟩
abbrev viewV (own next : Nat) (A : Option Addr) (n c : Nat) : Value := .agg #[.int .u64 own, .int .u64 next, .slice A n c]
/-- The view's list. -/
abbrev U64s (G : Foot) (w : World) (A : Option Addr) (xs : List Nat) : Prop := Reads G w 1 A xs.length (xs.map fun x : Nat => Value.int .u64 (x : Int))
theorem u64_infoV : (Tryz.prog.info? 22).map (fun i => (i.zero, i.size, i.bytes)) = some (some (.int .u64 0), 1, 8) := by kernel_rfl
set_option maxRecDepth 100000 in
theorem clone_u64 {G : Foot} {w : World} {A : Option Addr} {c : Nat} {xs : List Nat} (hR : U64s G w A xs) (hA : A = none ∨ ∃ b o, A = some ⟨b, o, none⟩) (hl : xs.length ≤ 1000000) :
    Calls Tryz.prog 176 #[.slice A xs.length c] w fun e w' => (∃ A' n' c', e = .returned (.slice A' n' c')) ∧ Below w.heap.size w w' := by
  obtain ⟨i0, hi, hz0, hz1, hz2⟩ := info_parts u64_infoV
  have form : ∀ {w1 : World} {v : Value} {n : Nat} {l : List Value}, w1.ownsRow w.heap.size 22 1 v n l → ∃ A' n' c', v = .slice A' n' c' := by
    intro w1 v n l h
    obtain ⟨_, h1 | ⟨g, cap, cur, h1, _⟩⟩ := h
    · exact ⟨_, _, _, h1.1⟩
    · exact ⟨_, _, _, h1⟩
  rcases hA with rfl | ⟨b, o, rfl⟩
  · refine (Tryz.slices_Clone_nil_f176 xs.length c w).mono ?_
    rintro e w1 ⟨rfl, rfl⟩
    exact ⟨⟨_, _, _, rfl⟩, Below.refl _ _⟩
  · have hz23 : ∀ w, (Go.sizeOf 22).run Tryz.prog w = .ok 1 w := fun w => by kernel_rfl
    have hc : ∀ j u, (xs.map fun x : Nat => Value.int .u64 (x : Int))[j]? = some u → w.cell? ⟨b, o + j, none⟩ = some u := by
      intro j u hu
      have hpos : 0 < xs.length := by have := (List.getElem?_eq_some_iff.1 hu).1; simp at this; omega
      obtain ⟨b2, o2, e2, _, _, hc⟩ := hR.2 hpos
      injection e2 with e2
      injection e2 with e3 e4
      subst e3 e4
      exact hc j u hu
    refine (Tryz.slices_Clone_f176 i0 _ 1 8 hi hz0 hz1 hz2 rfl (by decide) hz23 b o xs.length c (xs.map fun x : Nat => Value.int .u64 (x : Int)) w (by simp) (by unfold maxLen; omega) (by omega) hc (fun u hu => by
      obtain ⟨x, _, rfl⟩ := List.mem_map.1 hu; rfl)).mono ?_
    rintro e w1 ⟨v, rfl, hO, hnn, hb⟩
    obtain ⟨A', n', c', rfl⟩ := form hO
    exact ⟨⟨_, _, _, rfl⟩, hb⟩
set_option maxRecDepth 100000 in
theorem view_copied {G : Foot} {w : World} {A : Option Addr} {c own next : Nat} {xs : List Nat} (hR : U64s G w A xs) (hA : A = none ∨ ∃ b o, A = some ⟨b, o, none⟩) (hl : xs.length ≤ 1000000) :
    Calls Tryz.prog 93 #[viewV own next A xs.length c] w fun e w' => (∃ A' n' c', e = .returned (viewV own next A' n' c')) ∧ Below w.heap.size w w' := by
  have hb0 := ((Below.refl w.heap.size w).alloc (Nat.le_refl _) (.cells #[.int .u64 own, .int .u64 next, .slice A xs.length c] 55)).alloc (by simp) (.cells #[.int .u64 0, .int .u64 0, .slice none 0 0] 55)
  have hB := (Blk.new w 55 #[.int .u64 own, .int .u64 next, .slice A xs.length c]).alloc (.cells #[.int .u64 0, .int .u64 0, .slice none 0 0] 55)
  have hR1 := hR.below hb0
  have HC := Lib.hid (clone_u64 (c := c) hR1 hA hl)
  have HB := Lib.hid hB
  have hZ := Blk.new (w.alloc (.cells #[.int .u64 own, .int .u64 next, .slice A xs.length c] 55)) 55 #[.int .u64 0, .int .u64 0, .slice none 0 0]
  rw [show (w.alloc (.cells #[.int .u64 own, .int .u64 next, .slice A xs.length c] 55)).heap.size = w.heap.size + 1 by simp] at hZ
  have HZ := Lib.hid hZ
  have HBB := Lib.hid hb0
  clear hR hR1 hB hb0 hA hZ
  go_enter Tryz.func93, Tryz.ntmps93
  go_wp2_with fail
  refine HC.out.mono ?_
  rintro e w2 ⟨⟨A', n', c', rfl⟩, hb⟩
  have hB2 := HB.out.below hb HB.out.lt
  have hb2 := HBB.out.trans (hb.mono HBB.out.size)
  have x0 := hB2.cell 0
  have x1 := hB2.cell 1
  have x2 := hB2.cell 2
  have f2 := hB2.frozen 2
  simp only [List.getElem?_toArray, List.getElem?_cons_succ, List.getElem?_cons_zero] at x0 x1 x2
  have hZ2 := HZ.out.below hb HZ.out.lt
  have z0 := hZ2.cell 0
  have z1 := hZ2.cell 1
  have z2 := hZ2.cell 2
  have fz0 := hZ2.frozen 0
  have fz1 := hZ2.frozen 1
  have fz2 := hZ2.frozen 2
  simp only [List.getElem?_toArray, List.getElem?_cons_succ, List.getElem?_cons_zero] at z0 z1 z2
  clear hb HC HB HBB HZ hB2 hZ2
  go_wp2_with fail
  refine bodyPost_ret (v := viewV own next A' n' c') (by rw [results_cell1V rfl]; go_simp) rfl ⟨⟨_, _, _, rfl⟩, ?_⟩
  exact (((hb2.setCell (p := ⟨w.heap.size, 2, none⟩) (Nat.le_refl _) _).setCell (p := ⟨w.heap.size + 1, 0, none⟩) (Nat.le_succ _) _).setCell (p := ⟨w.heap.size + 1, 1, none⟩) (Nat.le_succ _) _).setCell (p := ⟨w.heap.size + 1, 2, none⟩) (Nat.le_succ _) _
theorem run_lookup_missV {P : Program} {w : World} {mty kt et : TypeId} {d : TypeDesc} {r clock : Nat} {es : Array MapEntry} {k z : Value} (hm : P.underlying mty = some (.map kt et)) (hk : P.underlying kt = some d) (hkey : MapKept.IsKey d k) (hb : w.heap[r]? = some (.map es clock)) (hf : Instr.findNow d k es.toList 0 = some none) (hz : (zeroValue et).run P w = .ok z w) :
    (Instr.lookup mty (.map (some r)) k true).run P w = .ok (.tuple #[z, .bool false]) w := by
  have hc : ∀ em, (Instr.checkKey em 10000 kt k).run P w = .ok () w := fun em => MapKept.run_checkKey hk hkey em 9999
  simp [Instr.lookup, run_underlying hm, MapKept.run_getObj_map hb, hc, MapKept.run_findKey hk hf, hz, Result.andThen]
set_option maxRecDepth 100000 in
theorem view_open {G : Foot} {w : World} {A : Option Addr} {c own next g r : Nat} {xs : List Nat} (hB : Blk w g 179 #[.map (some r)]) (hM : w.heap[r]? = some (.map #[] 0)) (hR : U64s G w A xs) (hA : A = none ∨ ∃ b o, A = some ⟨b, o, none⟩) (hl : xs.length ≤ 1000000) (B : Nat) (hB1 : B ≤ r) :
    Calls Tryz.prog 32 #[.pointer (some ⟨g, 0, none⟩), viewV own next A xs.length c] w fun e w' => e = .returned (.tuple #[.int .i64 1, .int .i64 0]) ∧ Below B w w' := by
  have h0 := hB.cell 0
  simp only [List.getElem?_toArray, List.getElem?_cons_zero] at h0
  have HM := Lib.hid fun (W : World) (hB : Blk W g 179 #[.map (some r)]) => view_made hB
  have hr : r < w.heap.size := (Array.getElem?_eq_some_iff.1 hM).1
  have hB1 := hB.alloc (.cells #[.int .u64 own, .int .u64 next, .slice A xs.length c] 55)
  have hM1 := (Below.heap_alloc w (.cells #[.int .u64 own, .int .u64 next, .slice A xs.length c] 55) r hr).trans hM
  have hX := Blk.new w 55 #[.int .u64 own, .int .u64 next, .slice A xs.length c]
  have hb1 := (Below.refl B w).alloc (by omega) (.cells #[.int .u64 own, .int .u64 next, .slice A xs.length c] 55)
  have hR1 := hR.below ((Below.refl w.heap.size w).alloc (Nat.le_refl _) (.cells #[.int .u64 own, .int .u64 next, .slice A xs.length c] 55))
  have HZV := Lib.hid fun (W : World) => (by kernel_rfl : (zeroValue 55).run Tryz.prog W = .ok (.agg #[.int .u64 0, .int .u64 0, .slice none 0 0]) W)
  have HB := Lib.hid hB1
  have HMM := Lib.hid hM1
  have HR := Lib.hid hR1
  have HX := Lib.hid hX
  have HBB := Lib.hid hb1
  clear hB hR hM hB1 hM1 hR1 hX hb1
  go_enter Tryz.func32, Tryz.ntmps32
  go_wp2_with fail
  refine (HM.out _ HB.out).mono ?_
  rintro e w2 ⟨rfl, hw⟩
  subst hw
  go_wp2_with fail
  go_loopw [6] (fun i wr => i = .int .i64 1 ∧ wr = w.alloc (.cells #[.int .u64 own, .int .u64 next, .slice A xs.length c] 55)) (fun _ _ => 0)
  case atStart => exact ⟨rfl, rfl⟩
  case round =>
    obtain ⟨rfl, hwr⟩ := hrel
    subst hwr
    have b0 := HB.out.cell 0
    simp only [List.getElem?_toArray, List.getElem?_cons_zero] at b0
    have hz : (zeroValue 55).run Tryz.prog (w.alloc (.cells #[.int .u64 own, .int .u64 next, .slice A xs.length c] 55)) = .ok (.agg #[.int .u64 0, .int .u64 0, .slice none 0 0]) (w.alloc (.cells #[.int .u64 own, .int .u64 next, .slice A xs.length c] 55)) := HZV.out _
    have hlk := run_lookup_missV (k := .int .i64 1) Tryz.underlying177 Tryz.underlying3 (by simp [MapKept.IsKey]) HMM.out rfl hz
    clear hz
    go_wp2_with fail
    have hB2 := HB.out.alloc (.cells #[.int .u64 0, .int .u64 0, .slice none 0 0] 55)
    have hM2 := (Below.heap_alloc (w.alloc (.cells #[.int .u64 own, .int .u64 next, .slice A xs.length c] 55)) (.cells #[.int .u64 0, .int .u64 0, .slice none 0 0] 55) r (by simp; omega)).trans HMM.out
    have hX2 := HX.out.alloc (.cells #[.int .u64 0, .int .u64 0, .slice none 0 0] 55)
    have hb2 := HBB.out.alloc (by simp; omega) (.cells #[.int .u64 0, .int .u64 0, .slice none 0 0] 55)
    have hR2 := HR.out.below ((Below.refl (w.alloc (.cells #[.int .u64 own, .int .u64 next, .slice A xs.length c] 55)).heap.size _).alloc (Nat.le_refl _) (.cells #[.int .u64 0, .int .u64 0, .slice none 0 0] 55))
    clear HB HMM HX HBB HR hlk b0 HZV
    generalize (w.alloc (.cells #[.int .u64 own, .int .u64 next, .slice A xs.length c] 55)).alloc (.cells #[.int .u64 0, .int .u64 0, .slice none 0 0] 55) = W2 at *
    have hW : Below W2.heap.size W2 W2.drew := (Below.refl _ _).drew
    have HC := Lib.hid (view_copied (c := c) (own := own) (next := next) (hR2.below hW) hA hl)
    have b0 := hB2.cell 0
    have x0 := hX2.cell 0
    have x1 := hX2.cell 1
    have x2 := hX2.cell 2
    simp only [List.getElem?_toArray, List.getElem?_cons_succ, List.getElem?_cons_zero] at b0 x0 x1 x2
    have HB2 := Lib.hid (hB2.below hW hB2.lt)
    have HM2 := Lib.hid ((hW.block r (Array.getElem?_eq_some_iff.1 hM2).1).trans hM2)
    have HBB := Lib.hid (hb2.trans (hW.mono (by have := (Array.getElem?_eq_some_iff.1 hM2).1; omega)))
    clear hB2 hM2 hX2 hb2 hR2 hW
    go_region_with (first
      | (go_at_call 93
         refine HC.out.mono ?_
         rintro e w3 ⟨⟨A', n', c', rfl⟩, hb3⟩
         have b3 := (HB2.out.below hb3 HB2.out.lt).cell 0
         simp only [List.getElem?_toArray, List.getElem?_cons_zero] at b3
         have hM3 := (hb3.block r (Array.getElem?_eq_some_iff.1 HM2.out).1).trans HM2.out
         have hup := run_update_new (k := .int .i64 1) (val := viewV own next A' n' c') Tryz.underlying177 Tryz.underlying3 (by simp [MapKept.IsKey]) hM3 rfl
         have hb4 := below_mapW (HBB.out.trans (hb3.mono (by have := (Array.getElem?_eq_some_iff.1 HM2.out).1; omega))) hM3 hB1 (#[].push { key := .int .i64 1, val := viewV own next A' n' c', born := 0 }) (0 + 1)))
    all_goals
      go_wp2_with fail
      go_ret2
      exact ⟨rfl, hb4⟩
end Go.Proofs.YtcciodpchdijgaaGreat
