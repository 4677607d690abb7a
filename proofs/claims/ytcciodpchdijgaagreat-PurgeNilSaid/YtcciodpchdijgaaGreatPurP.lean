/- PurgeNil answers true for every view: the row of the law, proved for every input, with no condition. -/
import Derived.Test.YtcciodpchdijgaaGreatRows
import Derived.Test.YtcciodpchdijgaaGreatPurL
import Derived.Test.YtcciodpchdijgaaGreatPurM
import Derived.Test.YtcciodpchdijgaaGreatEvDP
import Derived.Test.YtcciodpchdijgaaGreatPurA
import Derived.Test.YtcciodpchdijgaaGreatArg
import Derived.Test.YtcciodpchdijgaaGreatEnd
import Derived.Carry
import Derived.ChangeMaps5
namespace Go.Proofs.YtcciodpchdijgaaGreat
open Go.ChangeShapes Go.WideShapes Go.ChangeAt Go.RowKit Go.Deep

theorem Tryz.ownPu : ownKnob Tryz.prog.godebug = none := by kernel_rfl
theorem Tryz.laidOutPu : laidOutB Tryz.prog = true := by kernel_rfl
set_option maxRecDepth 100000 in
set_option maxHeartbeats 2000000 in
theorem purgeNil_lifted (os : Os) (started : os.Started) (H : Type) (enc : TypeId × Value → H) :
    ReturnsInHanded {} Tryz.checked os 6 .any (Rows.purgeNilSpec.pre6 enc Tryz.prog Tryz.f6 Rows.purgeNilRow.domain false) (Rows.purgeNilSpec.post enc Tryz.prog Tryz.f6 false true false false) := by
  refine returnsInHanded_of_change_sized (C := Tryz.checked) Tryz.ownPu started (by kernel_rfl) Tryz.func6
    (ChangeSpec.witness6 (enc := enc) (C := Tryz.checked) false ⟨#[], #[.agg #[.int .u64 0, .int .u64 0, .slice none 0 0]], []⟩ 8 (by kernel_rfl) (by kernel_rfl) (by kernel_rfl) (by kernel_rfl)) ?_
  intro W base args ds gs before hval0 hW _ hsz0 _
  have hval : ∀ (j : Nat) t v, Tryz.f6.params[j]? = some t → args[j]? = some v → Value.okWide Tryz.prog W .any base t v := hval0
  have hsz : (DataW.weightsEach Tryz.prog (Tryz.f6.params.toList ++ Rows.purgeNilSpec.plain.varTypes Tryz.prog) (ds ++ gs)).all (· ≤ reachBytes) = true := hsz0
  have hW' := hW
  obtain ⟨p, q, hA0, hV, rfl, hfz, hnd⟩ := hW
  have hA : DataW.TrodAll enc Tryz.prog W 0 (fun _ => true) true Tryz.f6.params.toList args.toList ds p := hA0
  rw [Tryz.params6] at hA hval hsz
  obtain ⟨v0, d0, rfl, rfl, h0⟩ := trodAll_one hA
  obtain ⟨rfl, rfl⟩ := trodVars_none hV
  have hv0 := hval 0 55 v0 rfl rfl
  obtain ⟨cs0, rfl, _⟩ := okWide_struct Tryz.underlying55 hv0
  obtain ⟨n0', h0'⟩ := h0
  obtain ⟨own, next, A, c, xs, hcs, _, _, hU, hxl, _⟩ := view_opened h0' (small_arg hsz (j := 0) rfl rfl)
  obtain ⟨l0⟩ := cs0
  obtain rfl : l0 = _ := hcs
  have hA := view_addr hv0
  clear hA0 hval0
  refine (law_purgeNil Ev.alive_calls Ev.hist_nil Ev.next_nil Ev.next0_nil Ev.step_nil hU hA (by omega)).mono fun e W' ⟨he, hb⟩ => ?_
  subst he
  exact ⟨_, rfl, law_post (TB := 4) Tryz.laidOutPu (by rw [Tryz.params6]; intro t ht; simp at ht; subst ht; exact ⟨by kernel_rfl, of_decide_eq_true (by kernel_rfl)⟩) Tryz.underlying4 rfl rfl hW' rfl hb⟩

theorem purgeNil_holds : Rows.PurgeNilSaid :=
  OpenClaim.holds_of_wide 6 Tryz.f6 rfl rfl rfl rfl rfl rfl rfl ⟨rfl, rfl, rfl, rfl, rfl⟩ rfl rfl rfl rfl rfl (by kernel_rfl) Tryz.func6 purgeNil_closed
    (of_decide_eq_true (by kernel_rfl)) (by unfold Func.isWrapper; rw [if_neg (of_decide_eq_false (by kernel_rfl))]; exact ⟨rfl, rfl⟩)
    (fun os started H enc _ => purgeNil_lifted os started H enc)
end Go.Proofs.YtcciodpchdijgaaGreat
