/-
  No cell of these rows narrows 'for every input' (looked for: loops, veiled, ifaces, maps, wideKeys, modest, calm, conditions, laid).
  DERIVED. THE GIVEN ROWS OF THIS SEAT. 4 by the template 'for every input the law returns true; each argument reads behind the call as it read before'; 0 by the template 'total and deterministic' (their statements: YtclpmkinjjhncaaGreatTotals.lean).
  GIVEN WITH THE SEED: the statements are not yours to turn. If you find one false, say at which input.
  Laid BY PROGRAM, IN A SANDBOX (cutbox-rows.mjs): the forced cells as the released guide's own fill.sh prints them over the translation 8bdbe80ff99ed7df… (all of the seat's roots in one cut). By AI agents, Wed Nov 11 2026. No macro, syntax, notation, axiom, sorry.
-/
import Derived.Test.YtclpmkinjjhncaaGreatChecked
import GoSem.Claim
import GoSem.ClaimJoined
import GoSem.ClaimMapViews
import Derived.JoinedTies
import Derived.KernelRfl
namespace Go.Proofs.YtclpmkinjjhncaaGreat
/- THE CELL 'sum', in the pinned program and in every row, IS THE sha256 OF THE DUMP (.gsa) THAT YtclpmkinjjhncaaGreatProg.lean LOADS. Nothing in Lean hashes anything: it is a label: what it is worth is what the hold of that sum in a sandbox is worth. -/
noncomputable def Tryz.pinned : Pinned := { name := "ytclpmkinjjhncaagreat", sum := "8bdbe80ff99ed7df35115d5f3dd3730ede157acbc71ac80e58991cdeb6a3bc4c", checked := Tryz.checked }
namespace Rows
def none {H : Type} : Left H := { results := [], args := [] }

/-- 'pentimentolaw17.ActFrames': WHATEVER THE INPUT: true; the input reads as it did. -/
def actFramesSpec : ChangeSpec := { name := "actFrames", fn := fun _ => fun
  | [d1, d2] => { results := [.lit (.bool true)], args := [d1, d2] }
  | _ => none }
def actFramesRow : OpenClaim := { program := "ytclpmkinjjhncaagreat", sum := "8bdbe80ff99ed7df35115d5f3dd3730ede157acbc71ac80e58991cdeb6a3bc4c", func := "pentimento/pentimentolaw17.ActFrames", spec := "actFrames", inPlace := ["internal/abi.NoEscape", "internal/bytealg.MakeNoZero", "slices.overlaps[string]"], unfollowed := true, recurses := true, apart := false }
def ActFramesSaid : Prop := actFramesRow.holds Tryz.pinned (OpenSpec.ofChange actFramesSpec)

/-- ITS FALSE NEIGHBOUR: 'it returns false'. Refute it at one input. -/
def actFramesWrong : ChangeSpec := { name := "actFrames", fn := fun _ => fun
  | [d1, d2] => { results := [.lit (.bool false)], args := [d1, d2] }
  | _ => none }
def ActFramesWrongFalsely : Prop := actFramesRow.holds Tryz.pinned (OpenSpec.ofChange actFramesWrong)

/-- 'pentimentolaw29.CheckTakes': WHATEVER THE INPUT: true; the input reads as it did. -/
def checkTakesSpec : ChangeSpec := { name := "checkTakes", fn := fun _ => fun
  | [d1, d2, d3, d4] => { results := [.lit (.bool true)], args := [d1, d2, d3, d4] }
  | _ => none }
def checkTakesRow : OpenClaim := { program := "ytclpmkinjjhncaagreat", sum := "8bdbe80ff99ed7df35115d5f3dd3730ede157acbc71ac80e58991cdeb6a3bc4c", func := "pentimento/pentimentolaw29.CheckTakes", spec := "checkTakes", inPlace := ["internal/abi.NoEscape", "internal/bytealg.MakeNoZero"], unfollowed := true, recurses := true, apart := false }
def CheckTakesSaid : Prop := checkTakesRow.holds Tryz.pinned (OpenSpec.ofChange checkTakesSpec)

/-- ITS FALSE NEIGHBOUR: 'it returns false'. Refute it at one input. -/
def checkTakesWrong : ChangeSpec := { name := "checkTakes", fn := fun _ => fun
  | [d1, d2, d3, d4] => { results := [.lit (.bool false)], args := [d1, d2, d3, d4] }
  | _ => none }
def CheckTakesWrongFalsely : Prop := checkTakesRow.holds Tryz.pinned (OpenSpec.ofChange checkTakesWrong)

/-- 'pentimentolaw29.CheckKeeps': WHATEVER THE INPUT: true; the input reads as it did. -/
def checkKeepsSpec : ChangeSpec := { name := "checkKeeps", fn := fun _ => fun
  | [d1, d2, d3, d4, d5] => { results := [.lit (.bool true)], args := [d1, d2, d3, d4, d5] }
  | _ => none }
def checkKeepsRow : OpenClaim := { program := "ytclpmkinjjhncaagreat", sum := "8bdbe80ff99ed7df35115d5f3dd3730ede157acbc71ac80e58991cdeb6a3bc4c", func := "pentimento/pentimentolaw29.CheckKeeps", spec := "checkKeeps", inPlace := ["internal/abi.NoEscape", "internal/bytealg.MakeNoZero"], unfollowed := true, recurses := true, apart := false }
def CheckKeepsSaid : Prop := checkKeepsRow.holds Tryz.pinned (OpenSpec.ofChange checkKeepsSpec)

/-- ITS FALSE NEIGHBOUR: 'it returns false'. Refute it at one input. -/
def checkKeepsWrong : ChangeSpec := { name := "checkKeeps", fn := fun _ => fun
  | [d1, d2, d3, d4, d5] => { results := [.lit (.bool false)], args := [d1, d2, d3, d4, d5] }
  | _ => none }
def CheckKeepsWrongFalsely : Prop := checkKeepsRow.holds Tryz.pinned (OpenSpec.ofChange checkKeepsWrong)

/-- 'pentimentolaw17.ActNil': WHATEVER THE INPUT: true; the input reads as it did. -/
def actNilSpec : ChangeSpec := { name := "actNil", fn := fun _ => fun
  | [d1, d2] => { results := [.lit (.bool true)], args := [d1, d2] }
  | _ => none }
def actNilRow : OpenClaim := { program := "ytclpmkinjjhncaagreat", sum := "8bdbe80ff99ed7df35115d5f3dd3730ede157acbc71ac80e58991cdeb6a3bc4c", func := "pentimento/pentimentolaw17.ActNil", spec := "actNil", inPlace := ["internal/abi.NoEscape", "internal/bytealg.MakeNoZero", "slices.overlaps[string]"], unfollowed := true, recurses := true, apart := false }
def ActNilSaid : Prop := actNilRow.holds Tryz.pinned (OpenSpec.ofChange actNilSpec)

/-- ITS FALSE NEIGHBOUR: 'it returns false'. Refute it at one input. -/
def actNilWrong : ChangeSpec := { name := "actNil", fn := fun _ => fun
  | [d1, d2] => { results := [.lit (.bool false)], args := [d1, d2] }
  | _ => none }
def ActNilWrongFalsely : Prop := actNilRow.holds Tryz.pinned (OpenSpec.ofChange actNilWrong)

/- THE SECOND FORM. 'bulk': how many values and letters a reading holds, each counted each time it is reached (what is shared counts as often as it is met; a slice's spare places count too). A statement '..UptoSaid' is the law's where the arguments, and the package variables that the reading takes, are together of bulk at most 1048576: NARROWER than '..Said'. Prove '..Said' where nothing that the law and all that it calls make is longer than what came in: it says more and counts as full. Else prove '..UptoSaid'. A law counts once. -/
mutual
def uptoBulk {H : Type} : DataW H → Nat
  | .lit (.string bytes) => bytes.length + 1
  | .lit _ => 1
  | .nil => 1
  | .ptr d => uptoBulk d + 1
  | .slice elems spare => uptoBulkAll elems + uptoBulkAll spare + 1
  | .agg parts => uptoBulkAll parts + 1
  | .iface _ d => uptoBulk d + 1
  | .map entries => uptoBulkEntries entries + 1
  | .held _ => 1
def uptoBulkAll {H : Type} : List (DataW H) → Nat
  | [] => 0
  | d :: r => uptoBulk d + uptoBulkAll r
def uptoBulkEntries {H : Type} : List (Lit × DataW H) → Nat
  | [] => 0
  | x :: r => uptoBulkEntry x + uptoBulkEntries r
def uptoBulkEntry {H : Type} : Lit × DataW H → Nat
  | (.string bytes, d) => bytes.length + uptoBulk d + 1
  | (_, d) => uptoBulk d + 1
 end
def uptoSmall : (H : Type) → List (DataW H) → Bool := fun _ ds => decide (uptoBulkAll ds ≤ 1048576)
def OpenSpec.upto (s : _root_.Go.ChangeSpec) : _root_.Go.OpenSpec := { _root_.Go.OpenSpec.ofChange s with cond := some uptoSmall }

/-- 'pentimentolaw17.ActFrames', WHERE WHAT IT READS IS OF BULK AT MOST 1048576: true; the input reads as it did. -/
def actFramesUptoRow : OpenClaim := { program := "ytclpmkinjjhncaagreat", sum := "8bdbe80ff99ed7df35115d5f3dd3730ede157acbc71ac80e58991cdeb6a3bc4c", func := "pentimento/pentimentolaw17.ActFrames", spec := "actFrames", inPlace := ["internal/abi.NoEscape", "internal/bytealg.MakeNoZero", "slices.overlaps[string]"], unfollowed := true, recurses := true, apart := false, narrowed := true }
def ActFramesUptoSaid : Prop := actFramesUptoRow.holds Tryz.pinned (OpenSpec.upto actFramesSpec)

/-- 'pentimentolaw29.CheckTakes', WHERE WHAT IT READS IS OF BULK AT MOST 1048576: true; the input reads as it did. -/
def checkTakesUptoRow : OpenClaim := { program := "ytclpmkinjjhncaagreat", sum := "8bdbe80ff99ed7df35115d5f3dd3730ede157acbc71ac80e58991cdeb6a3bc4c", func := "pentimento/pentimentolaw29.CheckTakes", spec := "checkTakes", inPlace := ["internal/abi.NoEscape", "internal/bytealg.MakeNoZero"], unfollowed := true, recurses := true, apart := false, narrowed := true }
def CheckTakesUptoSaid : Prop := checkTakesUptoRow.holds Tryz.pinned (OpenSpec.upto checkTakesSpec)

/-- 'pentimentolaw29.CheckKeeps', WHERE WHAT IT READS IS OF BULK AT MOST 1048576: true; the input reads as it did. -/
def checkKeepsUptoRow : OpenClaim := { program := "ytclpmkinjjhncaagreat", sum := "8bdbe80ff99ed7df35115d5f3dd3730ede157acbc71ac80e58991cdeb6a3bc4c", func := "pentimento/pentimentolaw29.CheckKeeps", spec := "checkKeeps", inPlace := ["internal/abi.NoEscape", "internal/bytealg.MakeNoZero"], unfollowed := true, recurses := true, apart := false, narrowed := true }
def CheckKeepsUptoSaid : Prop := checkKeepsUptoRow.holds Tryz.pinned (OpenSpec.upto checkKeepsSpec)

/-- 'pentimentolaw17.ActNil', WHERE WHAT IT READS IS OF BULK AT MOST 1048576: true; the input reads as it did. -/
def actNilUptoRow : OpenClaim := { program := "ytclpmkinjjhncaagreat", sum := "8bdbe80ff99ed7df35115d5f3dd3730ede157acbc71ac80e58991cdeb6a3bc4c", func := "pentimento/pentimentolaw17.ActNil", spec := "actNil", inPlace := ["internal/abi.NoEscape", "internal/bytealg.MakeNoZero", "slices.overlaps[string]"], unfollowed := true, recurses := true, apart := false, narrowed := true }
def ActNilUptoSaid : Prop := actNilUptoRow.holds Tryz.pinned (OpenSpec.upto actNilSpec)

end Rows
end Go.Proofs.YtclpmkinjjhncaaGreat
