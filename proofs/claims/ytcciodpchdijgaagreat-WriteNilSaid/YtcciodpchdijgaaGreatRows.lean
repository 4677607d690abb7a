/-
  No cell of these rows narrows 'for every input' (looked for: loops, veiled, ifaces, maps, wideKeys, modest, calm, conditions, laid).
  DERIVED. THE GIVEN ROWS OF THIS SEAT. 4 by the template 'for every input the law returns true; each argument reads behind the call as it read before'; 0 by the template 'total and deterministic' (their statements: YtcciodpchdijgaaGreatTotals.lean).
  GIVEN WITH THE SEED: the statements are not yours to turn. If you find one false, say at which input.
  Laid BY PROGRAM, IN A SANDBOX (cutbox-rows.mjs): the forced cells as the released guide's own fill.sh prints them over the translation 7e69ba6014c92479… (all of the seat's roots in one cut). By AI agents, Wed Nov 11 2026. No macro, syntax, notation, axiom, sorry.
-/
import Derived.Test.YtcciodpchdijgaaGreatChecked
import GoSem.Claim
import GoSem.ClaimJoined
import GoSem.ClaimMapViews
import Derived.JoinedTies
import Derived.KernelRfl
namespace Go.Proofs.YtcciodpchdijgaaGreat
/- THE CELL 'sum', in the pinned program and in every row, IS THE sha256 OF THE DUMP (.gsa) THAT YtcciodpchdijgaaGreatProg.lean LOADS. Nothing in Lean hashes anything: it is a label: what it is worth is what the hold of that sum in a sandbox is worth. -/
noncomputable def Tryz.pinned : Pinned := { name := "ytcciodpchdijgaagreat", sum := "7e69ba6014c92479ee1fbf5e27d891a3081db8837410d662b74782706a83fac7", checked := Tryz.checked }
namespace Rows
def none {H : Type} : Left H := { results := [], args := [] }

/-- 'pentimentolaw19.GrowNil': WHATEVER THE INPUT: true; the input reads as it did. -/
def growNilSpec : ChangeSpec := { name := "growNil", fn := fun _ => fun
  | [d] => { results := [.lit (.bool true)], args := [d] }
  | _ => none }
def growNilRow : OpenClaim := { program := "ytcciodpchdijgaagreat", sum := "7e69ba6014c92479ee1fbf5e27d891a3081db8837410d662b74782706a83fac7", func := "pentimento/pentimentolaw19.GrowNil", spec := "growNil", inPlace := ["internal/abi.NoEscape", "internal/bytealg.MakeNoZero", "internal/bytealg.abigen_runtime_cmpstring", "slices.overlaps[string]"], unfollowed := true, recurses := true, apart := false }
def GrowNilSaid : Prop := growNilRow.holds Tryz.pinned (OpenSpec.ofChange growNilSpec)

/-- ITS FALSE NEIGHBOUR: 'it returns false'. Refute it at one input. -/
def growNilWrong : ChangeSpec := { name := "growNil", fn := fun _ => fun
  | [d] => { results := [.lit (.bool false)], args := [d] }
  | _ => none }
def GrowNilWrongFalsely : Prop := growNilRow.holds Tryz.pinned (OpenSpec.ofChange growNilWrong)

/-- 'pentimentolaw20.ShrinkNil': WHATEVER THE INPUT: true; the input reads as it did. -/
def shrinkNilSpec : ChangeSpec := { name := "shrinkNil", fn := fun _ => fun
  | [d] => { results := [.lit (.bool true)], args := [d] }
  | _ => none }
def shrinkNilRow : OpenClaim := { program := "ytcciodpchdijgaagreat", sum := "7e69ba6014c92479ee1fbf5e27d891a3081db8837410d662b74782706a83fac7", func := "pentimento/pentimentolaw20.ShrinkNil", spec := "shrinkNil", inPlace := ["internal/abi.NoEscape", "internal/bytealg.MakeNoZero", "internal/bytealg.abigen_runtime_cmpstring", "slices.overlaps[string]"], unfollowed := true, recurses := true, apart := false }
def ShrinkNilSaid : Prop := shrinkNilRow.holds Tryz.pinned (OpenSpec.ofChange shrinkNilSpec)

/-- ITS FALSE NEIGHBOUR: 'it returns false'. Refute it at one input. -/
def shrinkNilWrong : ChangeSpec := { name := "shrinkNil", fn := fun _ => fun
  | [d] => { results := [.lit (.bool false)], args := [d] }
  | _ => none }
def ShrinkNilWrongFalsely : Prop := shrinkNilRow.holds Tryz.pinned (OpenSpec.ofChange shrinkNilWrong)

/-- 'pentimentolaw27.WriteNil': WHATEVER THE INPUT: true; the input reads as it did. -/
def writeNilSpec : ChangeSpec := { name := "writeNil", fn := fun _ => fun
  | [d1, d2, d3] => { results := [.lit (.bool true)], args := [d1, d2, d3] }
  | _ => none }
def writeNilRow : OpenClaim := { program := "ytcciodpchdijgaagreat", sum := "7e69ba6014c92479ee1fbf5e27d891a3081db8837410d662b74782706a83fac7", func := "pentimento/pentimentolaw27.WriteNil", spec := "writeNil", inPlace := ["internal/abi.NoEscape", "internal/bytealg.MakeNoZero", "slices.overlaps[string]", "internal/bytealg.abigen_runtime_cmpstring"], unfollowed := true, recurses := true, apart := false }
def WriteNilSaid : Prop := writeNilRow.holds Tryz.pinned (OpenSpec.ofChange writeNilSpec)

/-- ITS FALSE NEIGHBOUR: 'it returns false'. Refute it at one input. -/
def writeNilWrong : ChangeSpec := { name := "writeNil", fn := fun _ => fun
  | [d1, d2, d3] => { results := [.lit (.bool false)], args := [d1, d2, d3] }
  | _ => none }
def WriteNilWrongFalsely : Prop := writeNilRow.holds Tryz.pinned (OpenSpec.ofChange writeNilWrong)

/-- 'pentimentolaw28.PurgeNil': WHATEVER THE INPUT: true; the input reads as it did. -/
def purgeNilSpec : ChangeSpec := { name := "purgeNil", fn := fun _ => fun
  | [d] => { results := [.lit (.bool true)], args := [d] }
  | _ => none }
def purgeNilRow : OpenClaim := { program := "ytcciodpchdijgaagreat", sum := "7e69ba6014c92479ee1fbf5e27d891a3081db8837410d662b74782706a83fac7", func := "pentimento/pentimentolaw28.PurgeNil", spec := "purgeNil", inPlace := ["internal/abi.NoEscape", "internal/bytealg.MakeNoZero", "slices.overlaps[string]", "internal/bytealg.abigen_runtime_cmpstring"], unfollowed := true, recurses := true, apart := false }
def PurgeNilSaid : Prop := purgeNilRow.holds Tryz.pinned (OpenSpec.ofChange purgeNilSpec)

/-- ITS FALSE NEIGHBOUR: 'it returns false'. Refute it at one input. -/
def purgeNilWrong : ChangeSpec := { name := "purgeNil", fn := fun _ => fun
  | [d] => { results := [.lit (.bool false)], args := [d] }
  | _ => none }
def PurgeNilWrongFalsely : Prop := purgeNilRow.holds Tryz.pinned (OpenSpec.ofChange purgeNilWrong)

/- THE SECOND FORM. 'bulk': how many values and letters a reading holds, each counted each time it is reached (what is shared counts as often as it is met; a slice's spare places count too). A statement '..UptoSaid' is the law's where the arguments, and the package variables that the reading takes, are together of bulk at most 1048576: NARROWER than '..Said'. Prove '..Said' where nothing that the law and all that it calls make is longer than what came in: it says more and counts as full. Else prove '..UptoSaid'. A law counts once. -/
mutual
def uptoBulk {H : Type} : DataW H → Nat
  | .lit (.string bytes) => bytes.length + 1
  | .lit _ => 1
  | .nil => 1
  | .ptr d => uptoBulk d + 1
  | .slice elems spare => uptoBulkAll elems + uptoBulkAll spare + 1
  | .agg parts => uptoBulkAll parts + 1
  | .iface _ d => uptoBulk d + 1
  | .map entries => uptoBulkEntries entries + 1
  | .held _ => 1
def uptoBulkAll {H : Type} : List (DataW H) → Nat
  | [] => 0
  | d :: r => uptoBulk d + uptoBulkAll r
def uptoBulkEntries {H : Type} : List (Lit × DataW H) → Nat
  | [] => 0
  | x :: r => uptoBulkEntry x + uptoBulkEntries r
def uptoBulkEntry {H : Type} : Lit × DataW H → Nat
  | (.string bytes, d) => bytes.length + uptoBulk d + 1
  | (_, d) => uptoBulk d + 1
 end
def uptoSmall : (H : Type) → List (DataW H) → Bool := fun _ ds => decide (uptoBulkAll ds ≤ 1048576)
def OpenSpec.upto (s : _root_.Go.ChangeSpec) : _root_.Go.OpenSpec := { _root_.Go.OpenSpec.ofChange s with cond := some uptoSmall }

/-- 'pentimentolaw19.GrowNil', WHERE WHAT IT READS IS OF BULK AT MOST 1048576: true; the input reads as it did. -/
def growNilUptoRow : OpenClaim := { program := "ytcciodpchdijgaagreat", sum := "7e69ba6014c92479ee1fbf5e27d891a3081db8837410d662b74782706a83fac7", func := "pentimento/pentimentolaw19.GrowNil", spec := "growNil", inPlace := ["internal/abi.NoEscape", "internal/bytealg.MakeNoZero", "internal/bytealg.abigen_runtime_cmpstring", "slices.overlaps[string]"], unfollowed := true, recurses := true, apart := false, narrowed := true }
def GrowNilUptoSaid : Prop := growNilUptoRow.holds Tryz.pinned (OpenSpec.upto growNilSpec)

/-- 'pentimentolaw20.ShrinkNil', WHERE WHAT IT READS IS OF BULK AT MOST 1048576: true; the input reads as it did. -/
def shrinkNilUptoRow : OpenClaim := { program := "ytcciodpchdijgaagreat", sum := "7e69ba6014c92479ee1fbf5e27d891a3081db8837410d662b74782706a83fac7", func := "pentimento/pentimentolaw20.ShrinkNil", spec := "shrinkNil", inPlace := ["internal/abi.NoEscape", "internal/bytealg.MakeNoZero", "internal/bytealg.abigen_runtime_cmpstring", "slices.overlaps[string]"], unfollowed := true, recurses := true, apart := false, narrowed := true }
def ShrinkNilUptoSaid : Prop := shrinkNilUptoRow.holds Tryz.pinned (OpenSpec.upto shrinkNilSpec)

/-- 'pentimentolaw27.WriteNil', WHERE WHAT IT READS IS OF BULK AT MOST 1048576: true; the input reads as it did. -/
def writeNilUptoRow : OpenClaim := { program := "ytcciodpchdijgaagreat", sum := "7e69ba6014c92479ee1fbf5e27d891a3081db8837410d662b74782706a83fac7", func := "pentimento/pentimentolaw27.WriteNil", spec := "writeNil", inPlace := ["internal/abi.NoEscape", "internal/bytealg.MakeNoZero", "slices.overlaps[string]", "internal/bytealg.abigen_runtime_cmpstring"], unfollowed := true, recurses := true, apart := false, narrowed := true }
def WriteNilUptoSaid : Prop := writeNilUptoRow.holds Tryz.pinned (OpenSpec.upto writeNilSpec)

/-- 'pentimentolaw28.PurgeNil', WHERE WHAT IT READS IS OF BULK AT MOST 1048576: true; the input reads as it did. -/
def purgeNilUptoRow : OpenClaim := { program := "ytcciodpchdijgaagreat", sum := "7e69ba6014c92479ee1fbf5e27d891a3081db8837410d662b74782706a83fac7", func := "pentimento/pentimentolaw28.PurgeNil", spec := "purgeNil", inPlace := ["internal/abi.NoEscape", "internal/bytealg.MakeNoZero", "slices.overlaps[string]", "internal/bytealg.abigen_runtime_cmpstring"], unfollowed := true, recurses := true, apart := false, narrowed := true }
def PurgeNilUptoSaid : Prop := purgeNilUptoRow.holds Tryz.pinned (OpenSpec.upto purgeNilSpec)

end Rows
end Go.Proofs.YtcciodpchdijgaaGreat
