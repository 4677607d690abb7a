/- ShrinkNil answers true for every key: the row of the law, proved for every input, with no condition. -/
import Derived.Test.YtcciodpchdijgaaGreatRows
import Derived.Test.YtcciodpchdijgaaGreatShrL
import Derived.Test.YtcciodpchdijgaaGreatShrM
import Derived.Test.YtcciodpchdijgaaGreatEvDS
import Derived.Test.YtcciodpchdijgaaGreatArg
import Derived.Test.YtcciodpchdijgaaGreatArg
import Derived.Test.YtcciodpchdijgaaGreatEnd
import Derived.Carry
import Derived.ChangeMaps5
namespace Go.Proofs.YtcciodpchdijgaaGreat
open Go.ChangeShapes Go.WideShapes Go.ChangeAt Go.RowKit Go.Deep

theorem Tryz.ownSh : ownKnob Tryz.prog.godebug = none := by kernel_rfl
theorem Tryz.laidOutSh : laidOutB Tryz.prog = true := by kernel_rfl
set_option maxRecDepth 100000 in
set_option maxHeartbeats 2000000 in
theorem shrinkNil_lifted (os : Os) (started : os.Started) (H : Type) (enc : TypeId × Value → H) :
    ReturnsInHanded {} Tryz.checked os 4 .any (Rows.shrinkNilSpec.pre6 enc Tryz.prog Tryz.f4 Rows.shrinkNilRow.domain false) (Rows.shrinkNilSpec.post enc Tryz.prog Tryz.f4 false true false false) := by
  refine returnsInHanded_of_change_sized (C := Tryz.checked) Tryz.ownSh started (by kernel_rfl) Tryz.func4
    (ChangeSpec.witness6 (enc := enc) (C := Tryz.checked) false ⟨#[], #[.string ⟨#[]⟩], []⟩ 8 (by kernel_rfl) (by kernel_rfl) (by kernel_rfl) (by kernel_rfl)) ?_
  intro W base args ds gs before hval0 hW _ hsz0 _
  have hval : ∀ (j : Nat) t v, Tryz.f4.params[j]? = some t → args[j]? = some v → Value.okWide Tryz.prog W .any base t v := hval0
  have hsz : (DataW.weightsEach Tryz.prog (Tryz.f4.params.toList ++ Rows.shrinkNilSpec.plain.varTypes Tryz.prog) (ds ++ gs)).all (· ≤ reachBytes) = true := hsz0
  have hW' := hW
  obtain ⟨p, q, hA0, hV, rfl, hfz, hnd⟩ := hW
  have hA : DataW.TrodAll enc Tryz.prog W 0 (fun _ => true) true Tryz.f4.params.toList args.toList ds p := hA0
  rw [Tryz.params4] at hA hval hsz
  obtain ⟨v0, d0, rfl, rfl, h0⟩ := trodAll_one hA
  obtain ⟨rfl, rfl⟩ := trodVars_none hV
  obtain ⟨key, rfl, rfl, rfl, hks⟩ := Go.ChangeMaps.open_string Tryz.underlying9 (hval 0 9 v0 rfl rfl) h0
  clear hA0 hval0
  have fin := law_shrinkNil Ev.alive_calls (fun k W => Ev.step_nil (str k) W) (fun k W => Ev.tidy_nil (str k) W) key.data.toList W
  rw [show str key.data.toList = .string key by simp [str]] at fin
  refine fin.mono fun e W' ⟨he, hb⟩ => ?_
  subst he
  exact ⟨_, rfl, law_post (TB := 4) Tryz.laidOutSh (by rw [Tryz.params4]; intro t ht; simp at ht; subst ht; exact ⟨by kernel_rfl, of_decide_eq_true (by kernel_rfl)⟩) Tryz.underlying4 rfl rfl hW' rfl hb⟩

theorem shrinkNil_holds : Rows.ShrinkNilSaid :=
  OpenClaim.holds_of_wide 4 Tryz.f4 rfl rfl rfl rfl rfl rfl rfl ⟨rfl, rfl, rfl, rfl, rfl⟩ rfl rfl rfl rfl rfl (by kernel_rfl) Tryz.func4 shrinkNil_closed
    (of_decide_eq_true (by kernel_rfl)) (by unfold Func.isWrapper; rw [if_neg (of_decide_eq_false (by kernel_rfl))]; exact ⟨rfl, rfl⟩)
    (fun os started H enc _ => shrinkNil_lifted os started H enc)
end Go.Proofs.YtcciodpchdijgaaGreat
