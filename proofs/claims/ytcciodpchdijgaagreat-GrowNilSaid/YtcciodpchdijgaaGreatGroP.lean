/- GrowNil answers true for every row: the row of the law, proved for every input, with no condition. -/
import Derived.Test.YtcciodpchdijgaaGreatRows
import Derived.Test.YtcciodpchdijgaaGreatGroL
import Derived.Test.YtcciodpchdijgaaGreatGroM
import Derived.Test.YtcciodpchdijgaaGreatEvD
import Derived.Test.YtcciodpchdijgaaGreatGroA
import Derived.Test.YtcciodpchdijgaaGreatArg
import Derived.Test.YtcciodpchdijgaaGreatEnd
import Derived.Carry
import Derived.ChangeMaps5
namespace Go.Proofs.YtcciodpchdijgaaGreat
open Go.ChangeShapes Go.WideShapes Go.ChangeAt Go.RowKit Go.Deep

theorem Tryz.ownGr : ownKnob Tryz.prog.godebug = none := by kernel_rfl
theorem Tryz.laidOutGr : laidOutB Tryz.prog = true := by kernel_rfl
set_option maxRecDepth 100000 in
set_option maxHeartbeats 2000000 in
theorem growNil_lifted (os : Os) (started : os.Started) (H : Type) (enc : TypeId × Value → H) :
    ReturnsInHanded {} Tryz.checked os 3 .any (Rows.growNilSpec.pre6 enc Tryz.prog Tryz.f3 Rows.growNilRow.domain false) (Rows.growNilSpec.post enc Tryz.prog Tryz.f3 false true false false) := by
  refine returnsInHanded_of_change_sized (C := Tryz.checked) Tryz.ownGr started (by kernel_rfl) Tryz.func3
    (ChangeSpec.witness6 (enc := enc) (C := Tryz.checked) false ⟨#[], #[.agg #[.string ⟨#[]⟩, .bool false, .int .u64 0, .int .u32 0, .int .u16 0, .string ⟨#[]⟩, .int .i64 0]], []⟩ 8 (by kernel_rfl) (by kernel_rfl) (by kernel_rfl) (by kernel_rfl)) ?_
  intro W base args ds gs before hval0 hW _ hsz0 _
  have hval : ∀ (j : Nat) t v, Tryz.f3.params[j]? = some t → args[j]? = some v → Value.okWide Tryz.prog W .any base t v := hval0
  have hsz : (DataW.weightsEach Tryz.prog (Tryz.f3.params.toList ++ Rows.growNilSpec.plain.varTypes Tryz.prog) (ds ++ gs)).all (· ≤ reachBytes) = true := hsz0
  have hW' := hW
  obtain ⟨p, q, hA0, hV, rfl, hfz, hnd⟩ := hW
  have hA : DataW.TrodAll enc Tryz.prog W 0 (fun _ => true) true Tryz.f3.params.toList args.toList ds p := hA0
  rw [Tryz.params3] at hA hval hsz
  obtain ⟨v0, d0, rfl, rfl, h0⟩ := trodAll_one hA
  obtain ⟨rfl, rfl⟩ := trodVars_none hV
  obtain ⟨cs0, rfl, _⟩ := okWide_struct Tryz.underlying28 (hval 0 28 v0 rfl rfl)
  obtain ⟨n0', h0'⟩ := h0
  obtain ⟨k, m, t, p, s, v, q, hcs, hk, hv⟩ := row_opened h0' (small_arg hsz (j := 0) rfl rfl)
  obtain ⟨l0⟩ := cs0
  obtain rfl : l0 = _ := hcs
  clear hA0 hval0
  refine (law_growNil Ev.alive_calls k m t p s v q hk hv W).mono fun e W' ⟨he, hb⟩ => ?_
  subst he
  exact ⟨_, rfl, law_post (TB := 4) Tryz.laidOutGr (by rw [Tryz.params3]; intro t ht; simp at ht; subst ht; exact ⟨by kernel_rfl, of_decide_eq_true (by kernel_rfl)⟩) Tryz.underlying4 rfl rfl hW' rfl hb⟩

theorem growNil_holds : Rows.GrowNilSaid :=
  OpenClaim.holds_of_wide 3 Tryz.f3 rfl rfl rfl rfl rfl rfl rfl ⟨rfl, rfl, rfl, rfl, rfl⟩ rfl rfl rfl rfl rfl (by kernel_rfl) Tryz.func3 growNil_closed
    (of_decide_eq_true (by kernel_rfl)) (by unfold Func.isWrapper; rw [if_neg (of_decide_eq_false (by kernel_rfl))]; exact ⟨rfl, rfl⟩)
    (fun os started H enc _ => growNil_lifted os started H enc)
end Go.Proofs.YtcciodpchdijgaaGreat
