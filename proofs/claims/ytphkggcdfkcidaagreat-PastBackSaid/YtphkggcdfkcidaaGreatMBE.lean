/- PastBack answers true for every key, every list of changes, every version, every Roll and every transaction: the row of the law, proved for every input, with no condition. -/
import Derived.Test.YtphkggcdfkcidaaGreatRows
import Derived.Test.YtphkggcdfkcidaaGreatMBD
import Derived.Test.YtphkggcdfkcidaaGreatMBC
import Derived.Test.YtphkggcdfkcidaaGreatMAL
import Derived.Carry
import Derived.ChangeMaps5

namespace Go.Proofs.YtphkggcdfkcidaaGreat
open Go.ChangeShapes Go.WideShapes Go.ChangeAt Go.RowKit Go.Deep

theorem Tryz.ownK : ownKnob Tryz.prog.godebug = none := by kernel_rfl
theorem Tryz.laidOutK : laidOutB Tryz.prog = true := by kernel_rfl

set_option maxRecDepth 100000 in
set_option maxHeartbeats 2000000 in
theorem back_lifted (os : Os) (started : os.Started) (H : Type) (enc : TypeId × Value → H) :
    ReturnsInHanded {} Tryz.checked os 3 .any (Rows.pastBackSpec.pre6 enc Tryz.prog Tryz.f3 Rows.pastBackRow.domain false) (Rows.pastBackSpec.post enc Tryz.prog Tryz.f3 false true false false) := by
  refine returnsInHanded_of_change_sized (C := Tryz.checked) Tryz.ownK started (by kernel_rfl) Tryz.func3
    (ChangeSpec.witness6 (enc := enc) (C := Tryz.checked) false ⟨#[], #[.string ⟨#[]⟩, .slice none 0 0, .int .u8 0, .agg #[.int .u32 0, .int .u16 0], .int .u64 0], []⟩ 8 (by kernel_rfl) (by kernel_rfl) (by kernel_rfl) (by kernel_rfl)) ?_
  intro W base args ds gs before hval0 hW _ hsz0 _
  have hval : ∀ (j : Nat) t v, Tryz.f3.params[j]? = some t → args[j]? = some v → Value.okWide Tryz.prog W .any base t v := hval0
  have hsz : (DataW.weightsEach Tryz.prog (Tryz.f3.params.toList ++ Rows.pastBackSpec.plain.varTypes Tryz.prog) (ds ++ gs)).all (· ≤ reachBytes) = true := hsz0
  have hW' := hW
  obtain ⟨p, q, hA0, hV, rfl, hfz, hnd⟩ := hW
  have hA : DataW.TrodAll enc Tryz.prog W 0 (fun _ => true) true Tryz.f3.params.toList args.toList ds p := hA0
  rw [Tryz.params3] at hA hval hsz
  obtain ⟨v0, v1, v2, v3, v4, d0, d1, d2, d3, d4, p0, p1, p2, p3, p4, rfl, rfl, rfl, h0, h1, h2, h3, h4⟩ := trodAll_five hA
  obtain ⟨rfl, rfl⟩ := trodVars_none hV
  obtain ⟨key, rfl, rfl, rfl, hks⟩ := Go.ChangeMaps.open_string Tryz.underlying9 (hval 0 9 v0 rfl rfl) h0
  obtain ⟨A, n1, c1, rfl⟩ := okWide_slice Tryz.underlying22 (hval 1 22 v1 rfl rfl)
  obtain ⟨b0, rfl, rfl, rfl, wb⟩ := open_int Tryz.underlying5 (hval 2 5 v2 rfl rfl) h2
  obtain ⟨c0, rfl, rfl, rfl, wc⟩ := open_int Tryz.underlying27 (hval 4 27 v4 rfl rfl) h4
  obtain ⟨cs3, rfl, _⟩ := okWide_struct Tryz.underlying26 (hval 3 26 v3 rfl rfl)
  obtain ⟨n1', h1'⟩ := h1
  obtain ⟨n3', h3'⟩ := h3
  have hkz := small_string (small_arg hsz (j := 0) rfl rfl)
  obtain ⟨A, c, l, hcs, hR, hll, hl⟩ := steps_opened h1' (small_arg hsz (j := 1) rfl rfl)
  obtain ⟨rfl, rfl, rfl⟩ : _ ∧ _ ∧ _ := by simpa using hcs
  obtain ⟨aq, as_, hcs3, haq, has⟩ := roll_opened h3'
  obtain ⟨l3⟩ := cs3
  obtain rfl : l3 = _ := hcs3
  obtain ⟨fr, rfl, hfr⟩ := u8_nat wb
  obtain ⟨tx, rfl, htx⟩ := u64_nat wc
  clear hA0 hval0
  have fin : Calls Tryz.prog 3 #[str key.data.toList, .slice A l.length c1, .int .u8 fr, .agg #[.int .u32 aq, .int .u16 as_], .int .u64 tx] W fun e w' => e = .returned (.bool true) ∧ Below W.heap.size W w' := by
    by_cases hin : hzB l = false ∧ 1 ≤ l.length ∧ 1 ≤ key.data.toList.length ∧ key.data.toList.length ≤ 48
    · obtain ⟨hz, g1, g2, g3⟩ := hin
      exact law_back_in key.data.toList ⟨g2, g3⟩ l g1 hz (fun x hx => (hl x hx).1) fr aq as_ tx c1 hfr haq has htx A W hR
    · exact law_back_out key.data.toList l fr aq as_ tx c1 A (by omega) (fun x hx => by have := (hl x hx).2; omega) (by omega) _ W hR hin
  rw [show str key.data.toList = .string key by simp [str]] at fin
  refine fin.mono fun e W' ⟨he, hb⟩ => ?_
  subst he
  exact ⟨_, rfl, law_post (TB := 4) Tryz.laidOutK (by rw [Tryz.params3]; intro t ht; simp at ht; rcases ht with rfl | rfl | rfl | rfl | rfl <;> exact ⟨by kernel_rfl, of_decide_eq_true (by kernel_rfl)⟩) Tryz.underlying4 rfl rfl hW' rfl hb⟩

theorem back_holds : Rows.PastBackSaid :=
  OpenClaim.holds_of_wide 3 Tryz.f3 rfl rfl rfl rfl rfl rfl rfl ⟨rfl, rfl, rfl, rfl, rfl⟩ rfl rfl rfl rfl rfl (by kernel_rfl) Tryz.func3 (by kernel_rfl)
    (of_decide_eq_true (by kernel_rfl)) (by unfold Func.isWrapper; rw [if_neg (of_decide_eq_false (by kernel_rfl))]; exact ⟨rfl, rfl⟩)
    (fun os started H enc _ => back_lifted os started H enc)
end Go.Proofs.YtphkggcdfkcidaaGreat
