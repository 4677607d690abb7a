/-
  No cell of these rows narrows 'for every input' (looked for: loops, veiled, ifaces, maps, wideKeys, modest, calm, conditions, laid).
  DERIVED. THE GIVEN ROWS OF THIS SEAT. 4 by the template 'for every input the law returns true; each argument reads behind the call as it read before'; 0 by the template 'total and deterministic' (their statements: YtphkggcdfkcidaaGreatTotals.lean).
  GIVEN WITH THE SEED: the statements are not yours to turn. If you find one false, say at which input.
  Laid BY PROGRAM, IN A SANDBOX (cutbox-rows.mjs): the forced cells as the released guide's own fill.sh prints them over the translation d3f2951777087bd8… (all of the seat's roots in one cut). By AI agents, Wed Nov 11 2026. No macro, syntax, notation, axiom, sorry.
-/
import Derived.Test.YtphkggcdfkcidaaGreatChecked
import GoSem.Claim
import GoSem.ClaimJoined
import GoSem.ClaimMapViews
import Derived.JoinedTies
import Derived.KernelRfl
namespace Go.Proofs.YtphkggcdfkcidaaGreat
/- THE CELL 'sum', in the pinned program and in every row, IS THE sha256 OF THE DUMP (.gsa) THAT YtphkggcdfkcidaaGreatProg.lean LOADS. Nothing in Lean hashes anything: it is a label: what it is worth is what the hold of that sum in a sandbox is worth. -/
noncomputable def Tryz.pinned : Pinned := { name := "ytphkggcdfkcidaagreat", sum := "d3f2951777087bd8940dc5f4bcce4925e8b718769335b46f82b87bce609b1dd4", checked := Tryz.checked }
namespace Rows
def none {H : Type} : Left H := { results := [], args := [] }

/-- 'pentimentolaw26.PastBack': WHATEVER THE INPUT: true; the input reads as it did. -/
def pastBackSpec : ChangeSpec := { name := "pastBack", fn := fun _ => fun
  | [d1, d2, d3, d4, d5] => { results := [.lit (.bool true)], args := [d1, d2, d3, d4, d5] }
  | _ => none }
def pastBackRow : OpenClaim := { program := "ytphkggcdfkcidaagreat", sum := "d3f2951777087bd8940dc5f4bcce4925e8b718769335b46f82b87bce609b1dd4", func := "pentimento/pentimentolaw26.PastBack", spec := "pastBack", inPlace := ["internal/abi.NoEscape", "internal/bytealg.MakeNoZero"], unfollowed := true, recurses := true, apart := false }
def PastBackSaid : Prop := pastBackRow.holds Tryz.pinned (OpenSpec.ofChange pastBackSpec)

/-- ITS FALSE NEIGHBOUR: 'it returns false'. Refute it at one input. -/
def pastBackWrong : ChangeSpec := { name := "pastBack", fn := fun _ => fun
  | [d1, d2, d3, d4, d5] => { results := [.lit (.bool false)], args := [d1, d2, d3, d4, d5] }
  | _ => none }
def PastBackWrongFalsely : Prop := pastBackRow.holds Tryz.pinned (OpenSpec.ofChange pastBackWrong)

/-- 'pentimentolaw26.PastOlder': WHATEVER THE INPUT: true; the input reads as it did. -/
def pastOlderSpec : ChangeSpec := { name := "pastOlder", fn := fun _ => fun
  | [d1, d2, d3, d4] => { results := [.lit (.bool true)], args := [d1, d2, d3, d4] }
  | _ => none }
def pastOlderRow : OpenClaim := { program := "ytphkggcdfkcidaagreat", sum := "d3f2951777087bd8940dc5f4bcce4925e8b718769335b46f82b87bce609b1dd4", func := "pentimento/pentimentolaw26.PastOlder", spec := "pastOlder", inPlace := ["internal/abi.NoEscape", "internal/bytealg.MakeNoZero"], unfollowed := true, recurses := true, apart := false }
def PastOlderSaid : Prop := pastOlderRow.holds Tryz.pinned (OpenSpec.ofChange pastOlderSpec)

/-- ITS FALSE NEIGHBOUR: 'it returns false'. Refute it at one input. -/
def pastOlderWrong : ChangeSpec := { name := "pastOlder", fn := fun _ => fun
  | [d1, d2, d3, d4] => { results := [.lit (.bool false)], args := [d1, d2, d3, d4] }
  | _ => none }
def PastOlderWrongFalsely : Prop := pastOlderRow.holds Tryz.pinned (OpenSpec.ofChange pastOlderWrong)

/-- 'pentimentolaw26.PastBlind': WHATEVER THE INPUT: true; the input reads as it did. -/
def pastBlindSpec : ChangeSpec := { name := "pastBlind", fn := fun _ => fun
  | [d1, d2, d3, d4, d5] => { results := [.lit (.bool true)], args := [d1, d2, d3, d4, d5] }
  | _ => none }
def pastBlindRow : OpenClaim := { program := "ytphkggcdfkcidaagreat", sum := "d3f2951777087bd8940dc5f4bcce4925e8b718769335b46f82b87bce609b1dd4", func := "pentimento/pentimentolaw26.PastBlind", spec := "pastBlind", inPlace := ["internal/abi.NoEscape", "internal/bytealg.MakeNoZero"], unfollowed := true, recurses := true, apart := false }
def PastBlindSaid : Prop := pastBlindRow.holds Tryz.pinned (OpenSpec.ofChange pastBlindSpec)

/-- ITS FALSE NEIGHBOUR: 'it returns false'. Refute it at one input. -/
def pastBlindWrong : ChangeSpec := { name := "pastBlind", fn := fun _ => fun
  | [d1, d2, d3, d4, d5] => { results := [.lit (.bool false)], args := [d1, d2, d3, d4, d5] }
  | _ => none }
def PastBlindWrongFalsely : Prop := pastBlindRow.holds Tryz.pinned (OpenSpec.ofChange pastBlindWrong)

/-- 'pentimentolaw26.PastSees': WHATEVER THE INPUT: true; the input reads as it did. -/
def pastSeesSpec : ChangeSpec := { name := "pastSees", fn := fun _ => fun
  | [d1, d2, d3, d4] => { results := [.lit (.bool true)], args := [d1, d2, d3, d4] }
  | _ => none }
def pastSeesRow : OpenClaim := { program := "ytphkggcdfkcidaagreat", sum := "d3f2951777087bd8940dc5f4bcce4925e8b718769335b46f82b87bce609b1dd4", func := "pentimento/pentimentolaw26.PastSees", spec := "pastSees", inPlace := ["internal/abi.NoEscape", "internal/bytealg.MakeNoZero"], unfollowed := true, recurses := true, apart := false }
def PastSeesSaid : Prop := pastSeesRow.holds Tryz.pinned (OpenSpec.ofChange pastSeesSpec)

/-- ITS FALSE NEIGHBOUR: 'it returns false'. Refute it at one input. -/
def pastSeesWrong : ChangeSpec := { name := "pastSees", fn := fun _ => fun
  | [d1, d2, d3, d4] => { results := [.lit (.bool false)], args := [d1, d2, d3, d4] }
  | _ => none }
def PastSeesWrongFalsely : Prop := pastSeesRow.holds Tryz.pinned (OpenSpec.ofChange pastSeesWrong)

/- THE SECOND FORM. 'bulk': how many values and letters a reading holds, each counted each time it is reached (what is shared counts as often as it is met; a slice's spare places count too). A statement '..UptoSaid' is the law's where the arguments, and the package variables that the reading takes, are together of bulk at most 1048576: NARROWER than '..Said'. Prove '..Said' where nothing that the law and all that it calls make is longer than what came in: it says more and counts as full. Else prove '..UptoSaid'. A law counts once. -/
mutual
def uptoBulk {H : Type} : DataW H → Nat
  | .lit (.string bytes) => bytes.length + 1
  | .lit _ => 1
  | .nil => 1
  | .ptr d => uptoBulk d + 1
  | .slice elems spare => uptoBulkAll elems + uptoBulkAll spare + 1
  | .agg parts => uptoBulkAll parts + 1
  | .iface _ d => uptoBulk d + 1
  | .map entries => uptoBulkEntries entries + 1
  | .held _ => 1
def uptoBulkAll {H : Type} : List (DataW H) → Nat
  | [] => 0
  | d :: r => uptoBulk d + uptoBulkAll r
def uptoBulkEntries {H : Type} : List (Lit × DataW H) → Nat
  | [] => 0
  | x :: r => uptoBulkEntry x + uptoBulkEntries r
def uptoBulkEntry {H : Type} : Lit × DataW H → Nat
  | (.string bytes, d) => bytes.length + uptoBulk d + 1
  | (_, d) => uptoBulk d + 1
 end
def uptoSmall : (H : Type) → List (DataW H) → Bool := fun _ ds => decide (uptoBulkAll ds ≤ 1048576)
def OpenSpec.upto (s : _root_.Go.ChangeSpec) : _root_.Go.OpenSpec := { _root_.Go.OpenSpec.ofChange s with cond := some uptoSmall }

/-- 'pentimentolaw26.PastBack', WHERE WHAT IT READS IS OF BULK AT MOST 1048576: true; the input reads as it did. -/
def pastBackUptoRow : OpenClaim := { program := "ytphkggcdfkcidaagreat", sum := "d3f2951777087bd8940dc5f4bcce4925e8b718769335b46f82b87bce609b1dd4", func := "pentimento/pentimentolaw26.PastBack", spec := "pastBack", inPlace := ["internal/abi.NoEscape", "internal/bytealg.MakeNoZero"], unfollowed := true, recurses := true, apart := false, narrowed := true }
def PastBackUptoSaid : Prop := pastBackUptoRow.holds Tryz.pinned (OpenSpec.upto pastBackSpec)

/-- 'pentimentolaw26.PastOlder', WHERE WHAT IT READS IS OF BULK AT MOST 1048576: true; the input reads as it did. -/
def pastOlderUptoRow : OpenClaim := { program := "ytphkggcdfkcidaagreat", sum := "d3f2951777087bd8940dc5f4bcce4925e8b718769335b46f82b87bce609b1dd4", func := "pentimento/pentimentolaw26.PastOlder", spec := "pastOlder", inPlace := ["internal/abi.NoEscape", "internal/bytealg.MakeNoZero"], unfollowed := true, recurses := true, apart := false, narrowed := true }
def PastOlderUptoSaid : Prop := pastOlderUptoRow.holds Tryz.pinned (OpenSpec.upto pastOlderSpec)

/-- 'pentimentolaw26.PastBlind', WHERE WHAT IT READS IS OF BULK AT MOST 1048576: true; the input reads as it did. -/
def pastBlindUptoRow : OpenClaim := { program := "ytphkggcdfkcidaagreat", sum := "d3f2951777087bd8940dc5f4bcce4925e8b718769335b46f82b87bce609b1dd4", func := "pentimento/pentimentolaw26.PastBlind", spec := "pastBlind", inPlace := ["internal/abi.NoEscape", "internal/bytealg.MakeNoZero"], unfollowed := true, recurses := true, apart := false, narrowed := true }
def PastBlindUptoSaid : Prop := pastBlindUptoRow.holds Tryz.pinned (OpenSpec.upto pastBlindSpec)

/-- 'pentimentolaw26.PastSees', WHERE WHAT IT READS IS OF BULK AT MOST 1048576: true; the input reads as it did. -/
def pastSeesUptoRow : OpenClaim := { program := "ytphkggcdfkcidaagreat", sum := "d3f2951777087bd8940dc5f4bcce4925e8b718769335b46f82b87bce609b1dd4", func := "pentimento/pentimentolaw26.PastSees", spec := "pastSees", inPlace := ["internal/abi.NoEscape", "internal/bytealg.MakeNoZero"], unfollowed := true, recurses := true, apart := false, narrowed := true }
def PastSeesUptoSaid : Prop := pastSeesUptoRow.holds Tryz.pinned (OpenSpec.upto pastSeesSpec)

end Rows
end Go.Proofs.YtphkggcdfkcidaaGreat
