/-
  No cell of these rows narrows 'for every input' (looked for: loops, veiled, ifaces, maps, wideKeys, modest, calm, conditions, laid).
  DERIVED. THE GIVEN ROWS OF THIS SEAT. 11 by the template 'for every input the law returns true; each argument reads behind the call as it read before'; 0 by the template 'total and deterministic' (their statements: YtigmgeablmomnaaTotals.lean).
  GIVEN WITH THE SEED: the statements are not yours to turn. If you find one false, say at which input.
  Laid BY PROGRAM, IN A SANDBOX (cutbox-rows.mjs): the forced cells as the released guide's own fill.sh prints them over the translation a9ee9baf3ba4b333… (all of the seat's roots in one cut). By AI agents, Wed Nov 11 2026. No macro, syntax, notation, axiom, sorry.
-/
import Derived.Test.YtigmgeablmomnaaChecked
import GoSem.Claim
import GoSem.ClaimJoined
import GoSem.ClaimMapViews
import Derived.JoinedTies
import Derived.KernelRfl
namespace Go.Proofs.Ytigmgeablmomnaa
/- THE CELL 'sum', in the pinned program and in every row, IS THE sha256 OF THE DUMP (.gsa) THAT YtigmgeablmomnaaProg.lean LOADS. Nothing in Lean hashes anything: it is a label: what it is worth is what the hold of that sum in a sandbox is worth. -/
noncomputable def Try.pinned : Pinned := { name := "ytigmgeablmomnaa", sum := "a9ee9baf3ba4b333065d5b8982a0621359b5f6a99b437adddcc483d66599c566", checked := Try.checked }
namespace Rows
def none {H : Type} : Left H := { results := [], args := [] }

/-- 'laws.FnExactNewNode': WHATEVER THE INPUT: true; the input reads as it did. -/
def fnExactNewNodeSpec : ChangeSpec := { name := "fnExactNewNode", fn := fun _ => fun
  | [d1, d2] => { results := [.lit (.bool true)], args := [d1, d2] }
  | _ => none }
def fnExactNewNodeRow : OpenClaim := { program := "ytigmgeablmomnaa", sum := "a9ee9baf3ba4b333065d5b8982a0621359b5f6a99b437adddcc483d66599c566", func := "loop.example/g00220/laws.FnExactNewNode", spec := "fnExactNewNode", unfollowed := true, recurses := true, apart := false }
def FnExactNewNodeSaid : Prop := fnExactNewNodeRow.holds Try.pinned (OpenSpec.ofChange fnExactNewNodeSpec)

/-- ITS FALSE NEIGHBOUR: 'it returns false'. Refute it at one input. -/
def fnExactNewNodeWrong : ChangeSpec := { name := "fnExactNewNode", fn := fun _ => fun
  | [d1, d2] => { results := [.lit (.bool false)], args := [d1, d2] }
  | _ => none }
def FnExactNewNodeWrongFalsely : Prop := fnExactNewNodeRow.holds Try.pinned (OpenSpec.ofChange fnExactNewNodeWrong)

/-- 'laws.FnExactNodeOK': WHATEVER THE INPUT: true; the input reads as it did. -/
def fnExactNodeOKSpec : ChangeSpec := { name := "fnExactNodeOK", fn := fun _ => fun
  | [d] => { results := [.lit (.bool true)], args := [d] }
  | _ => none }
def fnExactNodeOKRow : OpenClaim := { program := "ytigmgeablmomnaa", sum := "a9ee9baf3ba4b333065d5b8982a0621359b5f6a99b437adddcc483d66599c566", func := "loop.example/g00220/laws.FnExactNodeOK", spec := "fnExactNodeOK", unfollowed := true, recurses := true, apart := false }
def FnExactNodeOKSaid : Prop := fnExactNodeOKRow.holds Try.pinned (OpenSpec.ofChange fnExactNodeOKSpec)

/-- ITS FALSE NEIGHBOUR: 'it returns false'. Refute it at one input. -/
def fnExactNodeOKWrong : ChangeSpec := { name := "fnExactNodeOK", fn := fun _ => fun
  | [d] => { results := [.lit (.bool false)], args := [d] }
  | _ => none }
def FnExactNodeOKWrongFalsely : Prop := fnExactNodeOKRow.holds Try.pinned (OpenSpec.ofChange fnExactNodeOKWrong)

/-- 'laws.FnExactUpToDate': WHATEVER THE INPUT: true; the input reads as it did. -/
def fnExactUpToDateSpec : ChangeSpec := { name := "fnExactUpToDate", fn := fun _ => fun
  | [d1, d2, d3] => { results := [.lit (.bool true)], args := [d1, d2, d3] }
  | _ => none }
def fnExactUpToDateRow : OpenClaim := { program := "ytigmgeablmomnaa", sum := "a9ee9baf3ba4b333065d5b8982a0621359b5f6a99b437adddcc483d66599c566", func := "loop.example/g00220/laws.FnExactUpToDate", spec := "fnExactUpToDate", unfollowed := true, recurses := true, apart := false }
def FnExactUpToDateSaid : Prop := fnExactUpToDateRow.holds Try.pinned (OpenSpec.ofChange fnExactUpToDateSpec)

/-- ITS FALSE NEIGHBOUR: 'it returns false'. Refute it at one input. -/
def fnExactUpToDateWrong : ChangeSpec := { name := "fnExactUpToDate", fn := fun _ => fun
  | [d1, d2, d3] => { results := [.lit (.bool false)], args := [d1, d2, d3] }
  | _ => none }
def FnExactUpToDateWrongFalsely : Prop := fnExactUpToDateRow.holds Try.pinned (OpenSpec.ofChange fnExactUpToDateWrong)

/-- 'laws.FnExactMembersOf': WHATEVER THE INPUT: true; the input reads as it did. -/
def fnExactMembersOfSpec : ChangeSpec := { name := "fnExactMembersOf", fn := fun _ => fun
  | [d] => { results := [.lit (.bool true)], args := [d] }
  | _ => none }
def fnExactMembersOfRow : OpenClaim := { program := "ytigmgeablmomnaa", sum := "a9ee9baf3ba4b333065d5b8982a0621359b5f6a99b437adddcc483d66599c566", func := "loop.example/g00220/laws.FnExactMembersOf", spec := "fnExactMembersOf", unfollowed := true, recurses := true, apart := false }
def FnExactMembersOfSaid : Prop := fnExactMembersOfRow.holds Try.pinned (OpenSpec.ofChange fnExactMembersOfSpec)

/-- ITS FALSE NEIGHBOUR: 'it returns false'. Refute it at one input. -/
def fnExactMembersOfWrong : ChangeSpec := { name := "fnExactMembersOf", fn := fun _ => fun
  | [d] => { results := [.lit (.bool false)], args := [d] }
  | _ => none }
def FnExactMembersOfWrongFalsely : Prop := fnExactMembersOfRow.holds Try.pinned (OpenSpec.ofChange fnExactMembersOfWrong)

/-- 'laws.FnExactNodeCrash': WHATEVER THE INPUT: true; the input reads as it did. -/
def fnExactNodeCrashSpec : ChangeSpec := { name := "fnExactNodeCrash", fn := fun _ => fun
  | [d] => { results := [.lit (.bool true)], args := [d] }
  | _ => none }
def fnExactNodeCrashRow : OpenClaim := { program := "ytigmgeablmomnaa", sum := "a9ee9baf3ba4b333065d5b8982a0621359b5f6a99b437adddcc483d66599c566", func := "loop.example/g00220/laws.FnExactNodeCrash", spec := "fnExactNodeCrash", unfollowed := true, recurses := true, apart := false }
def FnExactNodeCrashSaid : Prop := fnExactNodeCrashRow.holds Try.pinned (OpenSpec.ofChange fnExactNodeCrashSpec)

/-- ITS FALSE NEIGHBOUR: 'it returns false'. Refute it at one input. -/
def fnExactNodeCrashWrong : ChangeSpec := { name := "fnExactNodeCrash", fn := fun _ => fun
  | [d] => { results := [.lit (.bool false)], args := [d] }
  | _ => none }
def FnExactNodeCrashWrongFalsely : Prop := fnExactNodeCrashRow.holds Try.pinned (OpenSpec.ofChange fnExactNodeCrashWrong)

/-- 'laws.FnExactNodePropose': WHATEVER THE INPUT: true; the input reads as it did. -/
def fnExactNodeProposeSpec : ChangeSpec := { name := "fnExactNodePropose", fn := fun _ => fun
  | [d1, d2] => { results := [.lit (.bool true)], args := [d1, d2] }
  | _ => none }
def fnExactNodeProposeRow : OpenClaim := { program := "ytigmgeablmomnaa", sum := "a9ee9baf3ba4b333065d5b8982a0621359b5f6a99b437adddcc483d66599c566", func := "loop.example/g00220/laws.FnExactNodePropose", spec := "fnExactNodePropose", unfollowed := true, recurses := true, apart := false }
def FnExactNodeProposeSaid : Prop := fnExactNodeProposeRow.holds Try.pinned (OpenSpec.ofChange fnExactNodeProposeSpec)

/-- ITS FALSE NEIGHBOUR: 'it returns false'. Refute it at one input. -/
def fnExactNodeProposeWrong : ChangeSpec := { name := "fnExactNodePropose", fn := fun _ => fun
  | [d1, d2] => { results := [.lit (.bool false)], args := [d1, d2] }
  | _ => none }
def FnExactNodeProposeWrongFalsely : Prop := fnExactNodeProposeRow.holds Try.pinned (OpenSpec.ofChange fnExactNodeProposeWrong)

/-- 'laws.FnExactNodeTick': WHATEVER THE INPUT: true; the input reads as it did. -/
def fnExactNodeTickSpec : ChangeSpec := { name := "fnExactNodeTick", fn := fun _ => fun
  | [d1, d2] => { results := [.lit (.bool true)], args := [d1, d2] }
  | _ => none }
def fnExactNodeTickRow : OpenClaim := { program := "ytigmgeablmomnaa", sum := "a9ee9baf3ba4b333065d5b8982a0621359b5f6a99b437adddcc483d66599c566", func := "loop.example/g00220/laws.FnExactNodeTick", spec := "fnExactNodeTick", unfollowed := true, recurses := true, apart := false }
def FnExactNodeTickSaid : Prop := fnExactNodeTickRow.holds Try.pinned (OpenSpec.ofChange fnExactNodeTickSpec)

/-- ITS FALSE NEIGHBOUR: 'it returns false'. Refute it at one input. -/
def fnExactNodeTickWrong : ChangeSpec := { name := "fnExactNodeTick", fn := fun _ => fun
  | [d1, d2] => { results := [.lit (.bool false)], args := [d1, d2] }
  | _ => none }
def FnExactNodeTickWrongFalsely : Prop := fnExactNodeTickRow.holds Try.pinned (OpenSpec.ofChange fnExactNodeTickWrong)

/-- 'laws.FnExactNewGroup': WHATEVER THE INPUT: true; the input reads as it did. -/
def fnExactNewGroupSpec : ChangeSpec := { name := "fnExactNewGroup", fn := fun _ => fun
  | [d] => { results := [.lit (.bool true)], args := [d] }
  | _ => none }
def fnExactNewGroupRow : OpenClaim := { program := "ytigmgeablmomnaa", sum := "a9ee9baf3ba4b333065d5b8982a0621359b5f6a99b437adddcc483d66599c566", func := "loop.example/g00220/laws.FnExactNewGroup", spec := "fnExactNewGroup", apart := false }
def FnExactNewGroupSaid : Prop := fnExactNewGroupRow.holds Try.pinned (OpenSpec.ofChange fnExactNewGroupSpec)

/-- ITS FALSE NEIGHBOUR: 'it returns false'. Refute it at one input. -/
def fnExactNewGroupWrong : ChangeSpec := { name := "fnExactNewGroup", fn := fun _ => fun
  | [d] => { results := [.lit (.bool false)], args := [d] }
  | _ => none }
def FnExactNewGroupWrongFalsely : Prop := fnExactNewGroupRow.holds Try.pinned (OpenSpec.ofChange fnExactNewGroupWrong)

/-- 'laws.FnExactGroupOK': WHATEVER THE INPUT: true; the input reads as it did. -/
def fnExactGroupOKSpec : ChangeSpec := { name := "fnExactGroupOK", fn := fun _ => fun
  | [d] => { results := [.lit (.bool true)], args := [d] }
  | _ => none }
def fnExactGroupOKRow : OpenClaim := { program := "ytigmgeablmomnaa", sum := "a9ee9baf3ba4b333065d5b8982a0621359b5f6a99b437adddcc483d66599c566", func := "loop.example/g00220/laws.FnExactGroupOK", spec := "fnExactGroupOK", unfollowed := true, recurses := true, apart := false }
def FnExactGroupOKSaid : Prop := fnExactGroupOKRow.holds Try.pinned (OpenSpec.ofChange fnExactGroupOKSpec)

/-- ITS FALSE NEIGHBOUR: 'it returns false'. Refute it at one input. -/
def fnExactGroupOKWrong : ChangeSpec := { name := "fnExactGroupOK", fn := fun _ => fun
  | [d] => { results := [.lit (.bool false)], args := [d] }
  | _ => none }
def FnExactGroupOKWrongFalsely : Prop := fnExactGroupOKRow.holds Try.pinned (OpenSpec.ofChange fnExactGroupOKWrong)

/-- 'laws.FnExactLogsMatch': WHATEVER THE INPUT: true; the input reads as it did. -/
def fnExactLogsMatchSpec : ChangeSpec := { name := "fnExactLogsMatch", fn := fun _ => fun
  | [d] => { results := [.lit (.bool true)], args := [d] }
  | _ => none }
def fnExactLogsMatchRow : OpenClaim := { program := "ytigmgeablmomnaa", sum := "a9ee9baf3ba4b333065d5b8982a0621359b5f6a99b437adddcc483d66599c566", func := "loop.example/g00220/laws.FnExactLogsMatch", spec := "fnExactLogsMatch", unfollowed := true, recurses := true, apart := false }
def FnExactLogsMatchSaid : Prop := fnExactLogsMatchRow.holds Try.pinned (OpenSpec.ofChange fnExactLogsMatchSpec)

/-- ITS FALSE NEIGHBOUR: 'it returns false'. Refute it at one input. -/
def fnExactLogsMatchWrong : ChangeSpec := { name := "fnExactLogsMatch", fn := fun _ => fun
  | [d] => { results := [.lit (.bool false)], args := [d] }
  | _ => none }
def FnExactLogsMatchWrongFalsely : Prop := fnExactLogsMatchRow.holds Try.pinned (OpenSpec.ofChange fnExactLogsMatchWrong)

/-- 'laws.FnExactConfigAllowed': WHATEVER THE INPUT: true; the input reads as it did. -/
def fnExactConfigAllowedSpec : ChangeSpec := { name := "fnExactConfigAllowed", fn := fun _ => fun
  | [d1, d2] => { results := [.lit (.bool true)], args := [d1, d2] }
  | _ => none }
def fnExactConfigAllowedRow : OpenClaim := { program := "ytigmgeablmomnaa", sum := "a9ee9baf3ba4b333065d5b8982a0621359b5f6a99b437adddcc483d66599c566", func := "loop.example/g00220/laws.FnExactConfigAllowed", spec := "fnExactConfigAllowed", unfollowed := true, recurses := true, apart := false }
def FnExactConfigAllowedSaid : Prop := fnExactConfigAllowedRow.holds Try.pinned (OpenSpec.ofChange fnExactConfigAllowedSpec)

/-- ITS FALSE NEIGHBOUR: 'it returns false'. Refute it at one input. -/
def fnExactConfigAllowedWrong : ChangeSpec := { name := "fnExactConfigAllowed", fn := fun _ => fun
  | [d1, d2] => { results := [.lit (.bool false)], args := [d1, d2] }
  | _ => none }
def FnExactConfigAllowedWrongFalsely : Prop := fnExactConfigAllowedRow.holds Try.pinned (OpenSpec.ofChange fnExactConfigAllowedWrong)

/- THE SECOND FORM. 'bulk': how many values and letters a reading holds, each counted each time it is reached (what is shared counts as often as it is met; a slice's spare places count too). A statement '..UptoSaid' is the law's where the arguments, and the package variables that the reading takes, are together of bulk at most 1048576: NARROWER than '..Said'. Prove '..Said' where nothing that the law and all that it calls make is longer than what came in: it says more and counts as full. Else prove '..UptoSaid'. A law counts once. -/
mutual
def uptoBulk {H : Type} : DataW H → Nat
  | .lit (.string bytes) => bytes.length + 1
  | .lit _ => 1
  | .nil => 1
  | .ptr d => uptoBulk d + 1
  | .slice elems spare => uptoBulkAll elems + uptoBulkAll spare + 1
  | .agg parts => uptoBulkAll parts + 1
  | .iface _ d => uptoBulk d + 1
  | .map entries => uptoBulkEntries entries + 1
  | .held _ => 1
def uptoBulkAll {H : Type} : List (DataW H) → Nat
  | [] => 0
  | d :: r => uptoBulk d + uptoBulkAll r
def uptoBulkEntries {H : Type} : List (Lit × DataW H) → Nat
  | [] => 0
  | x :: r => uptoBulkEntry x + uptoBulkEntries r
def uptoBulkEntry {H : Type} : Lit × DataW H → Nat
  | (.string bytes, d) => bytes.length + uptoBulk d + 1
  | (_, d) => uptoBulk d + 1
 end
def uptoSmall : (H : Type) → List (DataW H) → Bool := fun _ ds => decide (uptoBulkAll ds ≤ 1048576)
def OpenSpec.upto (s : _root_.Go.ChangeSpec) : _root_.Go.OpenSpec := { _root_.Go.OpenSpec.ofChange s with cond := some uptoSmall }

/-- 'laws.FnExactNewNode', WHERE WHAT IT READS IS OF BULK AT MOST 1048576: true; the input reads as it did. -/
def fnExactNewNodeUptoRow : OpenClaim := { program := "ytigmgeablmomnaa", sum := "a9ee9baf3ba4b333065d5b8982a0621359b5f6a99b437adddcc483d66599c566", func := "loop.example/g00220/laws.FnExactNewNode", spec := "fnExactNewNode", unfollowed := true, recurses := true, apart := false, narrowed := true }
def FnExactNewNodeUptoSaid : Prop := fnExactNewNodeUptoRow.holds Try.pinned (OpenSpec.upto fnExactNewNodeSpec)

/-- 'laws.FnExactNodeOK', WHERE WHAT IT READS IS OF BULK AT MOST 1048576: true; the input reads as it did. -/
def fnExactNodeOKUptoRow : OpenClaim := { program := "ytigmgeablmomnaa", sum := "a9ee9baf3ba4b333065d5b8982a0621359b5f6a99b437adddcc483d66599c566", func := "loop.example/g00220/laws.FnExactNodeOK", spec := "fnExactNodeOK", unfollowed := true, recurses := true, apart := false, narrowed := true }
def FnExactNodeOKUptoSaid : Prop := fnExactNodeOKUptoRow.holds Try.pinned (OpenSpec.upto fnExactNodeOKSpec)

/-- 'laws.FnExactUpToDate', WHERE WHAT IT READS IS OF BULK AT MOST 1048576: true; the input reads as it did. -/
def fnExactUpToDateUptoRow : OpenClaim := { program := "ytigmgeablmomnaa", sum := "a9ee9baf3ba4b333065d5b8982a0621359b5f6a99b437adddcc483d66599c566", func := "loop.example/g00220/laws.FnExactUpToDate", spec := "fnExactUpToDate", unfollowed := true, recurses := true, apart := false, narrowed := true }
def FnExactUpToDateUptoSaid : Prop := fnExactUpToDateUptoRow.holds Try.pinned (OpenSpec.upto fnExactUpToDateSpec)

/-- 'laws.FnExactMembersOf', WHERE WHAT IT READS IS OF BULK AT MOST 1048576: true; the input reads as it did. -/
def fnExactMembersOfUptoRow : OpenClaim := { program := "ytigmgeablmomnaa", sum := "a9ee9baf3ba4b333065d5b8982a0621359b5f6a99b437adddcc483d66599c566", func := "loop.example/g00220/laws.FnExactMembersOf", spec := "fnExactMembersOf", unfollowed := true, recurses := true, apart := false, narrowed := true }
def FnExactMembersOfUptoSaid : Prop := fnExactMembersOfUptoRow.holds Try.pinned (OpenSpec.upto fnExactMembersOfSpec)

/-- 'laws.FnExactNodeCrash', WHERE WHAT IT READS IS OF BULK AT MOST 1048576: true; the input reads as it did. -/
def fnExactNodeCrashUptoRow : OpenClaim := { program := "ytigmgeablmomnaa", sum := "a9ee9baf3ba4b333065d5b8982a0621359b5f6a99b437adddcc483d66599c566", func := "loop.example/g00220/laws.FnExactNodeCrash", spec := "fnExactNodeCrash", unfollowed := true, recurses := true, apart := false, narrowed := true }
def FnExactNodeCrashUptoSaid : Prop := fnExactNodeCrashUptoRow.holds Try.pinned (OpenSpec.upto fnExactNodeCrashSpec)

/-- 'laws.FnExactNodePropose', WHERE WHAT IT READS IS OF BULK AT MOST 1048576: true; the input reads as it did. -/
def fnExactNodeProposeUptoRow : OpenClaim := { program := "ytigmgeablmomnaa", sum := "a9ee9baf3ba4b333065d5b8982a0621359b5f6a99b437adddcc483d66599c566", func := "loop.example/g00220/laws.FnExactNodePropose", spec := "fnExactNodePropose", unfollowed := true, recurses := true, apart := false, narrowed := true }
def FnExactNodeProposeUptoSaid : Prop := fnExactNodeProposeUptoRow.holds Try.pinned (OpenSpec.upto fnExactNodeProposeSpec)

/-- 'laws.FnExactNodeTick', WHERE WHAT IT READS IS OF BULK AT MOST 1048576: true; the input reads as it did. -/
def fnExactNodeTickUptoRow : OpenClaim := { program := "ytigmgeablmomnaa", sum := "a9ee9baf3ba4b333065d5b8982a0621359b5f6a99b437adddcc483d66599c566", func := "loop.example/g00220/laws.FnExactNodeTick", spec := "fnExactNodeTick", unfollowed := true, recurses := true, apart := false, narrowed := true }
def FnExactNodeTickUptoSaid : Prop := fnExactNodeTickUptoRow.holds Try.pinned (OpenSpec.upto fnExactNodeTickSpec)

/-- 'laws.FnExactNewGroup', WHERE WHAT IT READS IS OF BULK AT MOST 1048576: true; the input reads as it did. -/
def fnExactNewGroupUptoRow : OpenClaim := { program := "ytigmgeablmomnaa", sum := "a9ee9baf3ba4b333065d5b8982a0621359b5f6a99b437adddcc483d66599c566", func := "loop.example/g00220/laws.FnExactNewGroup", spec := "fnExactNewGroup", apart := false, narrowed := true }
def FnExactNewGroupUptoSaid : Prop := fnExactNewGroupUptoRow.holds Try.pinned (OpenSpec.upto fnExactNewGroupSpec)

/-- 'laws.FnExactGroupOK', WHERE WHAT IT READS IS OF BULK AT MOST 1048576: true; the input reads as it did. -/
def fnExactGroupOKUptoRow : OpenClaim := { program := "ytigmgeablmomnaa", sum := "a9ee9baf3ba4b333065d5b8982a0621359b5f6a99b437adddcc483d66599c566", func := "loop.example/g00220/laws.FnExactGroupOK", spec := "fnExactGroupOK", unfollowed := true, recurses := true, apart := false, narrowed := true }
def FnExactGroupOKUptoSaid : Prop := fnExactGroupOKUptoRow.holds Try.pinned (OpenSpec.upto fnExactGroupOKSpec)

/-- 'laws.FnExactLogsMatch', WHERE WHAT IT READS IS OF BULK AT MOST 1048576: true; the input reads as it did. -/
def fnExactLogsMatchUptoRow : OpenClaim := { program := "ytigmgeablmomnaa", sum := "a9ee9baf3ba4b333065d5b8982a0621359b5f6a99b437adddcc483d66599c566", func := "loop.example/g00220/laws.FnExactLogsMatch", spec := "fnExactLogsMatch", unfollowed := true, recurses := true, apart := false, narrowed := true }
def FnExactLogsMatchUptoSaid : Prop := fnExactLogsMatchUptoRow.holds Try.pinned (OpenSpec.upto fnExactLogsMatchSpec)

/-- 'laws.FnExactConfigAllowed', WHERE WHAT IT READS IS OF BULK AT MOST 1048576: true; the input reads as it did. -/
def fnExactConfigAllowedUptoRow : OpenClaim := { program := "ytigmgeablmomnaa", sum := "a9ee9baf3ba4b333065d5b8982a0621359b5f6a99b437adddcc483d66599c566", func := "loop.example/g00220/laws.FnExactConfigAllowed", spec := "fnExactConfigAllowed", unfollowed := true, recurses := true, apart := false, narrowed := true }
def FnExactConfigAllowedUptoSaid : Prop := fnExactConfigAllowedUptoRow.holds Try.pinned (OpenSpec.upto fnExactConfigAllowedSpec)

end Rows
end Go.Proofs.Ytigmgeablmomnaa
