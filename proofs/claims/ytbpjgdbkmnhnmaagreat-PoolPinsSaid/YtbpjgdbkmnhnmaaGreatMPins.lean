/- PoolPins answers true for every number of frames, every page that stays and every list of pages: the row of the law, proved for every input, with no condition. -/
import Derived.Test.YtbpjgdbkmnhnmaaGreatRows
import Derived.Test.YtbpjgdbkmnhnmaaGreatMQ
import Derived.Test.YtbpjgdbkmnhnmaaGreatMR
import Derived.ProofKit

namespace Go.Proofs.YtbpjgdbkmnhnmaaGreat
open Go.ChangeShapes Go.WideShapes Go.ChangeAt Go.RowKit

theorem Tryz.own : ownKnob Tryz.prog.godebug = none := by kernel_rfl
theorem Tryz.laidOut : laidOutB Tryz.prog = true := by kernel_rfl

theorem u8_of {n : Int} (h : (Lit.int .u8 n).wf = true) : ∃ m : Nat, n = (m : Int) ∧ m < 256 := by
  simp [Lit.wf, IntKind.min, IntKind.max, IntKind.signed, IntKind.bits] at h
  exact ⟨n.toNat, by omega, by omega⟩

set_option maxRecDepth 100000 in
theorem pins_lifted (os : Os) (started : os.Started) (H : Type) (enc : TypeId × Value → H) :
    ReturnsInHanded {} Tryz.checked os 3 .any (Rows.poolPinsSpec.pre6 enc Tryz.prog Tryz.f3 Rows.poolPinsRow.domain false) (Rows.poolPinsSpec.post enc Tryz.prog Tryz.f3 false true false false) := by
  refine returnsInHanded_of_change (C := Tryz.checked) Tryz.own started (by kernel_rfl) Tryz.func3
    (ChangeSpec.witness6 (enc := enc) (C := Tryz.checked) false ⟨#[], #[.int .u8 0, .int .u8 0, .slice none 0 0], []⟩ 8 (by kernel_rfl) (by kernel_rfl) (by kernel_rfl) (by kernel_rfl)) ?_
  intro W base args ds gs before hval0 hW _ _
  have hval : ∀ (j : Nat) t v, Tryz.f3.params[j]? = some t → args[j]? = some v → Value.okWide Tryz.prog W .any base t v := hval0
  have hW' := hW
  obtain ⟨p, q, hA0, hV, rfl, hfz, hnd⟩ := hW
  have hA : DataW.TrodAll enc Tryz.prog W 0 (fun _ => true) true Tryz.f3.params.toList args.toList ds p := hA0
  rw [Tryz.params3] at hA hval
  obtain ⟨v0, v1, v2, d0, d1, d2, p0, p1, p2, rfl, rfl, rfl, h0, h1, h2⟩ := trodAll_three hA
  obtain ⟨rfl, rfl⟩ := trodVars_none hV
  obtain ⟨a0, rfl, rfl, rfl, wa⟩ := open_int Tryz.underlying5 (hval 0 5 v0 rfl rfl) h0
  obtain ⟨b0, rfl, rfl, rfl, wb⟩ := open_int Tryz.underlying5 (hval 1 5 v1 rfl rfl) h1
  clear hA0 hval0
  obtain ⟨f, rfl, hf⟩ := u8_of wa
  obtain ⟨s, rfl, hs⟩ := u8_of wb
  obtain ⟨a2, l2, k2, rfl⟩ := okWide_slice Tryz.underlying22 (hval 2 22 v2 rfl rfl)
  obtain ⟨n2, h2'⟩ := h2
  have fin : Calls Tryz.prog 3 #[u8v f, u8v s, .slice a2 l2 k2] W fun e w' => e = .returned (.bool true) ∧ Below W.heap.size W w' := by
    rcases open_ints Tryz.underlying22 Tryz.underlying5 (by kernel_rfl) h2' with ⟨hcs, _⟩ | ⟨a, len, cap, zs, hcs, _, hl, hm, hz, _, hc, hwf⟩
    · obtain ⟨rfl, rfl, rfl⟩ : a2 = none ∧ l2 = 0 ∧ k2 = 0 := by simpa [Value.cells] using hcs
      exact law_pins f s hf hs none 0 [] (by simp) (by simp) W Reads.none_
    · obtain ⟨rfl, rfl, rfl⟩ : a2 = some a ∧ l2 = len ∧ k2 = cap := by simpa [Value.cells] using hcs
      by_cases hbig : 60 < l2
      · exact law_pins_big f s (some a) k2 l2 hbig (by omega) W
      · have hz' : zs.length = k2 := by simpa using hz
        have eg : ∀ i (h : i < zs.length), zs.getD i 0 = zs[i] := fun i h => by simp [h]
        have key : ∀ i, i < zs.length → W.cell? (a.add i) = some (u8v (zs.getD i 0).toNat) ∧ (zs.getD i 0).toNat < 256 := fun i hi => by
          have h1 := hc i hi
          have hmem : zs.getD i 0 ∈ zs := by rw [eg i hi]; exact List.getElem_mem hi
          obtain ⟨m, e, hm⟩ := u8_of (hwf _ hmem)
          rw [e] at h1 ⊢
          exact ⟨h1, hm⟩
        have hll : ((zs.take l2).map Int.toNat).length = l2 := by simp; omega
        have hgo := law_pins f s hf hs (some a) k2 ((zs.take l2).map Int.toNat) (by omega) (fun x hx => ?_) W ?_
        · rw [hll] at hgo; exact hgo
        · obtain ⟨y, hy, rfl⟩ := List.mem_map.1 hx
          obtain ⟨m, e, hm⟩ := u8_of (hwf y (List.mem_of_mem_take hy))
          rw [e]; exact hm
        · rw [hll]
          refine ⟨by simp; omega, fun hn => ?_⟩
          obtain ⟨b, off, spot⟩ := a
          obtain ⟨k0, _⟩ := key 0 (by omega)
          have hspot : spot = none := by simpa [Addr.add] using World.cell?_spot k0
          subst hspot
          refine ⟨b, off, rfl, World.block_lt_of_cell? W _ k0, World.block_lt_of_cell? W _ k0, fun j u hu => ?_⟩
          have hj : j < l2 := by
            have := (List.getElem?_eq_some_iff.1 hu).1
            simp at this; omega
          have e1 : (⟨b, off, none⟩ : Addr).add j = ⟨b, off + j, none⟩ := by cases j <;> simp [Addr.add]
          rw [← e1, (key j (by omega)).1]
          rw [List.getElem?_map, List.getElem?_map, List.getElem?_take, if_pos hj, List.getElem?_eq_getElem (by omega)] at hu
          rw [eg j (by omega)]
          exact hu
  refine fin.mono fun e W' ⟨he, hb⟩ => ?_
  subst he
  exact ⟨_, rfl, law_post (TB := 4) Tryz.laidOut (by rw [Tryz.params3]; intro t ht; simp at ht; rcases ht with rfl | rfl <;> exact ⟨by kernel_rfl, of_decide_eq_true (by kernel_rfl)⟩) Tryz.underlying4 rfl rfl hW' rfl hb⟩

theorem pins_holds : Rows.PoolPinsSaid :=
  OpenClaim.holds_of_wide 3 Tryz.f3 rfl rfl rfl rfl rfl rfl rfl ⟨rfl, rfl, rfl, rfl, rfl⟩ rfl rfl rfl rfl rfl (by kernel_rfl) Tryz.func3 (by kernel_rfl)
    (of_decide_eq_true (by kernel_rfl)) (by unfold Func.isWrapper; rw [if_neg (of_decide_eq_false (by kernel_rfl))]; exact ⟨rfl, rfl⟩)
    (fun os started H enc _ => pins_lifted os started H enc)
end Go.Proofs.YtbpjgdbkmnhnmaaGreat
