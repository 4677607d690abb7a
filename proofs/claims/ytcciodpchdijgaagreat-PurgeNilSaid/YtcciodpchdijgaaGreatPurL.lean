/- The walk of the law PurgeNil. -/
import Derived.Test.YtcciodpchdijgaaGreatPurN
namespace Go.Proofs.YtcciodpchdijgaaGreat
open Go.RowKit

abbrev segZ : Value := .agg #[.int .u64 0, .int .u8 0, .int .u64 0, .int .u32 0, .int .u32 0, .int .u32 0, .int .u16 0]
theorem tree_root_nil (w : World) : Calls Tryz.prog 36 #[.pointer none] w fun e w' => e = .returned (.int .u32 0) ∧ w' = w := by
  go_enter Tryz.func36, Tryz.ntmps36
  go_wp2_with fail
  go_ret
  exact ⟨rfl, rfl⟩
set_option maxRecDepth 100000 in
set_option maxHeartbeats 2000000 in
theorem law_purgeNil (HAL0 : ∀ W : World, Calls Tryz.prog 30 #[] W fun e w' => e = .returned (.bool true) ∧ Below W.heap.size W w')
    (HH0 : ∀ W : World, Calls Tryz.prog 33 #[.pointer none] W fun e w' => e = .returned (.tuple #[.slice none 0 0, .int .i64 1]) ∧ Below W.heap.size W w')
    (HN0 : ∀ (g : Nat) (W : World), Calls Tryz.prog 34 #[.pointer none, .pointer (some ⟨g, 0, none⟩)] W fun e w' => e = .returned (.tuple #[segZ, .bool false, .int .i64 1]) ∧ Below W.heap.size W w')
    (HM0 : ∀ W : World, Calls Tryz.prog 34 #[.pointer none, .pointer none] W fun e w' => e = .returned (.tuple #[segZ, .bool false, .int .i64 1]) ∧ Below W.heap.size W w')
    (HS0 : ∀ W : World, Calls Tryz.prog 35 #[.pointer none, .pointer none] W fun e w' => e = .returned (.tuple #[.bool false, .int .i64 1]) ∧ Below W.heap.size W w')
    {G : Foot} {w : World} {A : Option Addr} {c own next : Nat} {xs : List Nat} (hR : U64s G w A xs) (hA : A = none ∨ ∃ b o, A = some ⟨b, o, none⟩) (hl : xs.length ≤ 140737488355328) :
    Calls Tryz.prog 6 #[viewV own next A xs.length c] w fun e w' => e = .returned (.bool true) ∧ Below w.heap.size w w' := by
  have HAL := Lib.hid HAL0
  have HH := Lib.hid HH0
  have HN := Lib.hid HN0
  have HM := Lib.hid HM0
  have HS := Lib.hid HS0
  have HV := Lib.hid fun (W : World) => view_new W
  have HRT := Lib.hid fun (W : World) => tree_root_nil W
  have HR := Lib.hid hR
  clear HAL0 HH0 HN0 HM0 HS0 hR
  have hb1 := (Below.refl w.heap.size w).alloc (Nat.le_refl _) (.cells #[.int .u64 own, .int .u64 next, .slice A xs.length c] 55)
  have HBB := Lib.hid hb1
  clear hb1
  go_enter Tryz.func6, Tryz.ntmps6
  go_wp2_with fail
  · refine (HAL.out _).mono ?_
    rintro e w1 ⟨rfl, hb⟩
    have hb2 := HBB.out.trans (hb.mono HBB.out.size)
    clear hb
    go_wp2_with fail
    go_ret
    exact ⟨rfl, hb2⟩
  · refine (HV.out _).mono ?_
    rintro e w1 ⟨rfl, hw⟩
    subst hw
    have hlen : xs.length ≤ 1000000 := by
      rename_i h1
      omega
    have e1 : ((w.alloc (.cells #[.int .u64 own, .int .u64 next, .slice A xs.length c] 55)).alloc (.map #[] 0)).heap.size = w.heap.size + 1 + 1 := by simp
    have e0 : (w.alloc (.cells #[.int .u64 own, .int .u64 next, .slice A xs.length c] 55)).heap.size = w.heap.size + 1 := by simp
    have hX := ((Blk.new w 55 #[.int .u64 own, .int .u64 next, .slice A xs.length c]).alloc (.map #[] 0)).alloc (.cells #[.map (some (w.heap.size + 1))] 179)
    have hB := Blk.new ((w.alloc (.cells #[.int .u64 own, .int .u64 next, .slice A xs.length c] 55)).alloc (.map #[] 0)) 179 #[.map (some (w.heap.size + 1))]
    rw [e1] at hB
    have hM := (Below.heap_alloc ((w.alloc (.cells #[.int .u64 own, .int .u64 next, .slice A xs.length c] 55)).alloc (.map #[] 0)) (.cells #[.map (some (w.heap.size + 1))] 179) (w.heap.size + 1) (by omega)).trans (show ((w.alloc (.cells #[.int .u64 own, .int .u64 next, .slice A xs.length c] 55)).alloc (.map #[] 0)).heap[w.heap.size + 1]? = some (.map #[] 0) by rw [← e0]; exact heap_alloc_new _ _)
    have hb2 := (HBB.out.alloc (by omega) (.map #[] 0)).alloc (by omega) (.cells #[.map (some (w.heap.size + 1))] 179)
    have hR2 := HR.out.below hb2
    have HO := Lib.hid (view_open (c := c) (own := own) (next := next) hB hM hR2 hA hlen w.heap.size (by omega))
    have HB2 := Lib.hid hb2
    clear hX hB hM hb2 hR2 HBB HR e0 e1
    go_wp2_with fail
    refine HO.out.mono ?_
    rintro e w2 ⟨rfl, hb⟩
    have hb3 := HB2.out.trans hb
    clear HO HB2 hb
    go_wp2_with fail
    refine (HH.out _).mono ?_
    rintro e w3 ⟨rfl, hb⟩
    have hb4 := hb3.trans (hb.mono hb3.size)
    clear hb hb3
    go_wp2_with fail
    refine (HN.out _ _).mono ?_
    rintro e w4 ⟨rfl, hb⟩
    have hb5 := (hb4.trans (hb.mono hb4.size)).alloc (hb4.trans (hb.mono hb4.size)).size (.cells #[.int .u64 0, .int .u8 0, .int .u64 0, .int .u32 0, .int .u32 0, .int .u32 0, .int .u16 0] 59)
    clear hb hb4
    go_wp2_with fail
    refine (HM.out _).mono ?_
    rintro e w5 ⟨rfl, hb⟩
    have hb6 := (hb5.trans (hb.mono hb5.size)).alloc (hb5.trans (hb.mono hb5.size)).size (.cells #[.int .u64 0, .int .u8 0, .int .u64 0, .int .u32 0, .int .u32 0, .int .u32 0, .int .u16 0] 59)
    clear hb hb5
    have hS := Blk.new w5 59 #[.int .u64 0, .int .u8 0, .int .u64 0, .int .u32 0, .int .u32 0, .int .u32 0, .int .u16 0]
    have HSB := Lib.hid hS
    clear hS
    go_wp2_with fail
    refine (HS.out _).mono ?_
    rintro e w6 ⟨rfl, hb⟩
    have hS6 := HSB.out.below hb HSB.out.lt
    have hb7 := hb6.trans (hb.mono hb6.size)
    have x0 := hS6.cell 0
    have x1 := hS6.cell 1
    have x2 := hS6.cell 2
    have x3 := hS6.cell 3
    have x4 := hS6.cell 4
    have x5 := hS6.cell 5
    have x6 := hS6.cell 6
    simp only [List.getElem?_toArray, List.getElem?_cons_succ, List.getElem?_cons_zero] at x0 x1 x2 x3 x4 x5 x6
    clear hb hb6 hS6 HSB
    go_wp2_with fail
    refine (HRT.out _).mono ?_
    rintro e w7 ⟨rfl, hw⟩
    subst hw
    go_wp2_with fail
    refine (HAL.out _).mono ?_
    rintro e w8 ⟨rfl, hb⟩
    have hb8 := hb7.trans (hb.mono hb7.size)
    go_wp2_with fail
    go_ret
    exact ⟨rfl, hb8⟩
end Go.Proofs.YtcciodpchdijgaaGreat
