/-
  No cell of these rows narrows 'for every input' (looked for: loops, veiled, ifaces, maps, wideKeys, modest, calm, conditions, laid).
  DERIVED. THE GIVEN ROWS OF THIS SEAT. 4 by the template 'for every input the law returns true; each argument reads behind the call as it read before'; 0 by the template 'total and deterministic' (their statements: YtfpjlkdklgokiaaGreatTotals.lean).
  GIVEN WITH THE SEED: the statements are not yours to turn. If you find one false, say at which input.
  Laid BY PROGRAM, IN A SANDBOX (cutbox-rows.mjs): the forced cells as the released guide's own fill.sh prints them over the translation 363b4903a1b685af… (all of the seat's roots in one cut). By AI agents, Wed Nov 11 2026. No macro, syntax, notation, axiom, sorry.
-/
import Derived.Test.YtfpjlkdklgokiaaGreatChecked
import GoSem.Claim
import GoSem.ClaimJoined
import GoSem.ClaimMapViews
import Derived.JoinedTies
import Derived.KernelRfl
namespace Go.Proofs.YtfpjlkdklgokiaaGreat
/- THE CELL 'sum', in the pinned program and in every row, IS THE sha256 OF THE DUMP (.gsa) THAT YtfpjlkdklgokiaaGreatProg.lean LOADS. Nothing in Lean hashes anything: it is a label: what it is worth is what the hold of that sum in a sandbox is worth. -/
noncomputable def Tryz.pinned : Pinned := { name := "ytfpjlkdklgokiaagreat", sum := "363b4903a1b685af780b4068cd604628bbd897dc63bcedf252a2f4bb1b2f1081", checked := Tryz.checked }
namespace Rows
def none {H : Type} : Left H := { results := [], args := [] }

/-- 'pentimentolaw29.CheckTakes': WHATEVER THE INPUT: true; the input reads as it did. -/
def checkTakesSpec : ChangeSpec := { name := "checkTakes", fn := fun _ => fun
  | [d1, d2, d3, d4] => { results := [.lit (.bool true)], args := [d1, d2, d3, d4] }
  | _ => none }
def checkTakesRow : OpenClaim := { program := "ytfpjlkdklgokiaagreat", sum := "363b4903a1b685af780b4068cd604628bbd897dc63bcedf252a2f4bb1b2f1081", func := "pentimento/pentimentolaw29.CheckTakes", spec := "checkTakes", inPlace := ["internal/abi.NoEscape", "internal/bytealg.MakeNoZero"], unfollowed := true, recurses := true, apart := false }
def CheckTakesSaid : Prop := checkTakesRow.holds Tryz.pinned (OpenSpec.ofChange checkTakesSpec)

/-- ITS FALSE NEIGHBOUR: 'it returns false'. Refute it at one input. -/
def checkTakesWrong : ChangeSpec := { name := "checkTakes", fn := fun _ => fun
  | [d1, d2, d3, d4] => { results := [.lit (.bool false)], args := [d1, d2, d3, d4] }
  | _ => none }
def CheckTakesWrongFalsely : Prop := checkTakesRow.holds Tryz.pinned (OpenSpec.ofChange checkTakesWrong)

/-- 'pentimentolaw29.CheckKeeps': WHATEVER THE INPUT: true; the input reads as it did. -/
def checkKeepsSpec : ChangeSpec := { name := "checkKeeps", fn := fun _ => fun
  | [d1, d2, d3, d4, d5] => { results := [.lit (.bool true)], args := [d1, d2, d3, d4, d5] }
  | _ => none }
def checkKeepsRow : OpenClaim := { program := "ytfpjlkdklgokiaagreat", sum := "363b4903a1b685af780b4068cd604628bbd897dc63bcedf252a2f4bb1b2f1081", func := "pentimento/pentimentolaw29.CheckKeeps", spec := "checkKeeps", inPlace := ["internal/abi.NoEscape", "internal/bytealg.MakeNoZero"], unfollowed := true, recurses := true, apart := false }
def CheckKeepsSaid : Prop := checkKeepsRow.holds Tryz.pinned (OpenSpec.ofChange checkKeepsSpec)

/-- ITS FALSE NEIGHBOUR: 'it returns false'. Refute it at one input. -/
def checkKeepsWrong : ChangeSpec := { name := "checkKeeps", fn := fun _ => fun
  | [d1, d2, d3, d4, d5] => { results := [.lit (.bool false)], args := [d1, d2, d3, d4, d5] }
  | _ => none }
def CheckKeepsWrongFalsely : Prop := checkKeepsRow.holds Tryz.pinned (OpenSpec.ofChange checkKeepsWrong)

/-- 'pentimentolaw17.ActDoes': WHATEVER THE INPUT: true; the input reads as it did. -/
def actDoesSpec : ChangeSpec := { name := "actDoes", fn := fun _ => fun
  | [d1, d2] => { results := [.lit (.bool true)], args := [d1, d2] }
  | _ => none }
def actDoesRow : OpenClaim := { program := "ytfpjlkdklgokiaagreat", sum := "363b4903a1b685af780b4068cd604628bbd897dc63bcedf252a2f4bb1b2f1081", func := "pentimento/pentimentolaw17.ActDoes", spec := "actDoes", inPlace := ["internal/abi.NoEscape", "internal/bytealg.MakeNoZero", "slices.overlaps[string]"], unfollowed := true, recurses := true, apart := false }
def ActDoesSaid : Prop := actDoesRow.holds Tryz.pinned (OpenSpec.ofChange actDoesSpec)

/-- ITS FALSE NEIGHBOUR: 'it returns false'. Refute it at one input. -/
def actDoesWrong : ChangeSpec := { name := "actDoes", fn := fun _ => fun
  | [d1, d2] => { results := [.lit (.bool false)], args := [d1, d2] }
  | _ => none }
def ActDoesWrongFalsely : Prop := actDoesRow.holds Tryz.pinned (OpenSpec.ofChange actDoesWrong)

/-- 'pentimentolaw17.ActAgain': WHATEVER THE INPUT: true; the input reads as it did. -/
def actAgainSpec : ChangeSpec := { name := "actAgain", fn := fun _ => fun
  | [d1, d2, d3] => { results := [.lit (.bool true)], args := [d1, d2, d3] }
  | _ => none }
def actAgainRow : OpenClaim := { program := "ytfpjlkdklgokiaagreat", sum := "363b4903a1b685af780b4068cd604628bbd897dc63bcedf252a2f4bb1b2f1081", func := "pentimento/pentimentolaw17.ActAgain", spec := "actAgain", inPlace := ["internal/abi.NoEscape", "internal/bytealg.MakeNoZero", "slices.overlaps[string]"], unfollowed := true, recurses := true, apart := false }
def ActAgainSaid : Prop := actAgainRow.holds Tryz.pinned (OpenSpec.ofChange actAgainSpec)

/-- ITS FALSE NEIGHBOUR: 'it returns false'. Refute it at one input. -/
def actAgainWrong : ChangeSpec := { name := "actAgain", fn := fun _ => fun
  | [d1, d2, d3] => { results := [.lit (.bool false)], args := [d1, d2, d3] }
  | _ => none }
def ActAgainWrongFalsely : Prop := actAgainRow.holds Tryz.pinned (OpenSpec.ofChange actAgainWrong)

/- THE SECOND FORM. 'bulk': how many values and letters a reading holds, each counted each time it is reached (what is shared counts as often as it is met; a slice's spare places count too). A statement '..UptoSaid' is the law's where the arguments, and the package variables that the reading takes, are together of bulk at most 1048576: NARROWER than '..Said'. Prove '..Said' where nothing that the law and all that it calls make is longer than what came in: it says more and counts as full. Else prove '..UptoSaid'. A law counts once. -/
mutual
def uptoBulk {H : Type} : DataW H → Nat
  | .lit (.string bytes) => bytes.length + 1
  | .lit _ => 1
  | .nil => 1
  | .ptr d => uptoBulk d + 1
  | .slice elems spare => uptoBulkAll elems + uptoBulkAll spare + 1
  | .agg parts => uptoBulkAll parts + 1
  | .iface _ d => uptoBulk d + 1
  | .map entries => uptoBulkEntries entries + 1
  | .held _ => 1
def uptoBulkAll {H : Type} : List (DataW H) → Nat
  | [] => 0
  | d :: r => uptoBulk d + uptoBulkAll r
def uptoBulkEntries {H : Type} : List (Lit × DataW H) → Nat
  | [] => 0
  | x :: r => uptoBulkEntry x + uptoBulkEntries r
def uptoBulkEntry {H : Type} : Lit × DataW H → Nat
  | (.string bytes, d) => bytes.length + uptoBulk d + 1
  | (_, d) => uptoBulk d + 1
 end
def uptoSmall : (H : Type) → List (DataW H) → Bool := fun _ ds => decide (uptoBulkAll ds ≤ 1048576)
def OpenSpec.upto (s : _root_.Go.ChangeSpec) : _root_.Go.OpenSpec := { _root_.Go.OpenSpec.ofChange s with cond := some uptoSmall }

/-- 'pentimentolaw29.CheckTakes', WHERE WHAT IT READS IS OF BULK AT MOST 1048576: true; the input reads as it did. -/
def checkTakesUptoRow : OpenClaim := { program := "ytfpjlkdklgokiaagreat", sum := "363b4903a1b685af780b4068cd604628bbd897dc63bcedf252a2f4bb1b2f1081", func := "pentimento/pentimentolaw29.CheckTakes", spec := "checkTakes", inPlace := ["internal/abi.NoEscape", "internal/bytealg.MakeNoZero"], unfollowed := true, recurses := true, apart := false, narrowed := true }
def CheckTakesUptoSaid : Prop := checkTakesUptoRow.holds Tryz.pinned (OpenSpec.upto checkTakesSpec)

/-- 'pentimentolaw29.CheckKeeps', WHERE WHAT IT READS IS OF BULK AT MOST 1048576: true; the input reads as it did. -/
def checkKeepsUptoRow : OpenClaim := { program := "ytfpjlkdklgokiaagreat", sum := "363b4903a1b685af780b4068cd604628bbd897dc63bcedf252a2f4bb1b2f1081", func := "pentimento/pentimentolaw29.CheckKeeps", spec := "checkKeeps", inPlace := ["internal/abi.NoEscape", "internal/bytealg.MakeNoZero"], unfollowed := true, recurses := true, apart := false, narrowed := true }
def CheckKeepsUptoSaid : Prop := checkKeepsUptoRow.holds Tryz.pinned (OpenSpec.upto checkKeepsSpec)

/-- 'pentimentolaw17.ActDoes', WHERE WHAT IT READS IS OF BULK AT MOST 1048576: true; the input reads as it did. -/
def actDoesUptoRow : OpenClaim := { program := "ytfpjlkdklgokiaagreat", sum := "363b4903a1b685af780b4068cd604628bbd897dc63bcedf252a2f4bb1b2f1081", func := "pentimento/pentimentolaw17.ActDoes", spec := "actDoes", inPlace := ["internal/abi.NoEscape", "internal/bytealg.MakeNoZero", "slices.overlaps[string]"], unfollowed := true, recurses := true, apart := false, narrowed := true }
def ActDoesUptoSaid : Prop := actDoesUptoRow.holds Tryz.pinned (OpenSpec.upto actDoesSpec)

/-- 'pentimentolaw17.ActAgain', WHERE WHAT IT READS IS OF BULK AT MOST 1048576: true; the input reads as it did. -/
def actAgainUptoRow : OpenClaim := { program := "ytfpjlkdklgokiaagreat", sum := "363b4903a1b685af780b4068cd604628bbd897dc63bcedf252a2f4bb1b2f1081", func := "pentimento/pentimentolaw17.ActAgain", spec := "actAgain", inPlace := ["internal/abi.NoEscape", "internal/bytealg.MakeNoZero", "slices.overlaps[string]"], unfollowed := true, recurses := true, apart := false, narrowed := true }
def ActAgainUptoSaid : Prop := actAgainUptoRow.holds Tryz.pinned (OpenSpec.upto actAgainSpec)

end Rows
end Go.Proofs.YtfpjlkdklgokiaaGreat
