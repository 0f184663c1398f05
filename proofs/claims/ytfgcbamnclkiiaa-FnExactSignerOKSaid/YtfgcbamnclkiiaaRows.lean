/-
  No cell of these rows narrows 'for every input' (looked for: loops, veiled, ifaces, maps, wideKeys, modest, calm, conditions, laid).
  DERIVED. THE GIVEN ROWS OF THIS SEAT. 5 by the template 'for every input the law returns true; each argument reads behind the call as it read before'; 0 by the template 'total and deterministic' (their statements: YtfgcbamnclkiiaaTotals.lean).
  GIVEN WITH THE SEED: the statements are not yours to turn. If you find one false, say at which input.
  Laid BY PROGRAM, IN A SANDBOX (cutbox-rows.mjs): the forced cells as the released guide's own fill.sh prints them over the translation 4061667624834788… (all of the seat's roots in one cut). By AI agents, Wed Nov 11 2026. No macro, syntax, notation, axiom, sorry.
-/
import Derived.Test.YtfgcbamnclkiiaaChecked
import GoSem.Claim
import GoSem.ClaimJoined
import GoSem.ClaimMapViews
import Derived.JoinedTies
import Derived.KernelRfl
namespace Go.Proofs.Ytfgcbamnclkiiaa
/- THE CELL 'sum', in the pinned program and in every row, IS THE sha256 OF THE DUMP (.gsa) THAT YtfgcbamnclkiiaaProg.lean LOADS. Nothing in Lean hashes anything: it is a label: what it is worth is what the hold of that sum in a sandbox is worth. -/
noncomputable def Try.pinned : Pinned := { name := "ytfgcbamnclkiiaa", sum := "406166762483478877aabf6dd762e9ba4b304f59af501d2d23c6bedc7b5bc7f3", checked := Try.checked }
namespace Rows
def none {H : Type} : Left H := { results := [], args := [] }

/-- 'laws.FnExactSignerOK': WHATEVER THE INPUT: true; the input reads as it did. -/
def fnExactSignerOKSpec : ChangeSpec := { name := "fnExactSignerOK", fn := fun _ => fun
  | [d] => { results := [.lit (.bool true)], args := [d] }
  | _ => none }
def fnExactSignerOKRow : OpenClaim := { program := "ytfgcbamnclkiiaa", sum := "406166762483478877aabf6dd762e9ba4b304f59af501d2d23c6bedc7b5bc7f3", func := "loop.example/g00220/laws.FnExactSignerOK", spec := "fnExactSignerOK", unfollowed := true, recurses := true, apart := false }
def FnExactSignerOKSaid : Prop := fnExactSignerOKRow.holds Try.pinned (OpenSpec.ofChange fnExactSignerOKSpec)

/-- ITS FALSE NEIGHBOUR: 'it returns false'. Refute it at one input. -/
def fnExactSignerOKWrong : ChangeSpec := { name := "fnExactSignerOK", fn := fun _ => fun
  | [d] => { results := [.lit (.bool false)], args := [d] }
  | _ => none }
def FnExactSignerOKWrongFalsely : Prop := fnExactSignerOKRow.holds Try.pinned (OpenSpec.ofChange fnExactSignerOKWrong)

/-- 'laws.FnExactPendingCall': WHATEVER THE INPUT: true; the input reads as it did. -/
def fnExactPendingCallSpec : ChangeSpec := { name := "fnExactPendingCall", fn := fun _ => fun
  | [d1, d2] => { results := [.lit (.bool true)], args := [d1, d2] }
  | _ => none }
def fnExactPendingCallRow : OpenClaim := { program := "ytfgcbamnclkiiaa", sum := "406166762483478877aabf6dd762e9ba4b304f59af501d2d23c6bedc7b5bc7f3", func := "loop.example/g00220/laws.FnExactPendingCall", spec := "fnExactPendingCall", apart := false }
def FnExactPendingCallSaid : Prop := fnExactPendingCallRow.holds Try.pinned (OpenSpec.ofChange fnExactPendingCallSpec)

/-- ITS FALSE NEIGHBOUR: 'it returns false'. Refute it at one input. -/
def fnExactPendingCallWrong : ChangeSpec := { name := "fnExactPendingCall", fn := fun _ => fun
  | [d1, d2] => { results := [.lit (.bool false)], args := [d1, d2] }
  | _ => none }
def FnExactPendingCallWrongFalsely : Prop := fnExactPendingCallRow.holds Try.pinned (OpenSpec.ofChange fnExactPendingCallWrong)

/-- 'laws.FnExactNewNode': WHATEVER THE INPUT: true; the input reads as it did. -/
def fnExactNewNodeSpec : ChangeSpec := { name := "fnExactNewNode", fn := fun _ => fun
  | [d1, d2] => { results := [.lit (.bool true)], args := [d1, d2] }
  | _ => none }
def fnExactNewNodeRow : OpenClaim := { program := "ytfgcbamnclkiiaa", sum := "406166762483478877aabf6dd762e9ba4b304f59af501d2d23c6bedc7b5bc7f3", func := "loop.example/g00220/laws.FnExactNewNode", spec := "fnExactNewNode", unfollowed := true, recurses := true, apart := false }
def FnExactNewNodeSaid : Prop := fnExactNewNodeRow.holds Try.pinned (OpenSpec.ofChange fnExactNewNodeSpec)

/-- ITS FALSE NEIGHBOUR: 'it returns false'. Refute it at one input. -/
def fnExactNewNodeWrong : ChangeSpec := { name := "fnExactNewNode", fn := fun _ => fun
  | [d1, d2] => { results := [.lit (.bool false)], args := [d1, d2] }
  | _ => none }
def FnExactNewNodeWrongFalsely : Prop := fnExactNewNodeRow.holds Try.pinned (OpenSpec.ofChange fnExactNewNodeWrong)

/-- 'laws.FnExactNodeOK': WHATEVER THE INPUT: true; the input reads as it did. -/
def fnExactNodeOKSpec : ChangeSpec := { name := "fnExactNodeOK", fn := fun _ => fun
  | [d] => { results := [.lit (.bool true)], args := [d] }
  | _ => none }
def fnExactNodeOKRow : OpenClaim := { program := "ytfgcbamnclkiiaa", sum := "406166762483478877aabf6dd762e9ba4b304f59af501d2d23c6bedc7b5bc7f3", func := "loop.example/g00220/laws.FnExactNodeOK", spec := "fnExactNodeOK", unfollowed := true, recurses := true, apart := false }
def FnExactNodeOKSaid : Prop := fnExactNodeOKRow.holds Try.pinned (OpenSpec.ofChange fnExactNodeOKSpec)

/-- ITS FALSE NEIGHBOUR: 'it returns false'. Refute it at one input. -/
def fnExactNodeOKWrong : ChangeSpec := { name := "fnExactNodeOK", fn := fun _ => fun
  | [d] => { results := [.lit (.bool false)], args := [d] }
  | _ => none }
def FnExactNodeOKWrongFalsely : Prop := fnExactNodeOKRow.holds Try.pinned (OpenSpec.ofChange fnExactNodeOKWrong)

/-- 'laws.FnExactChain': WHATEVER THE INPUT: true; the input reads as it did. -/
def fnExactChainSpec : ChangeSpec := { name := "fnExactChain", fn := fun _ => fun
  | [d1, d2, d3] => { results := [.lit (.bool true)], args := [d1, d2, d3] }
  | _ => none }
def fnExactChainRow : OpenClaim := { program := "ytfgcbamnclkiiaa", sum := "406166762483478877aabf6dd762e9ba4b304f59af501d2d23c6bedc7b5bc7f3", func := "loop.example/g00220/laws.FnExactChain", spec := "fnExactChain", inPlace := ["internal/abi.NoEscape", "internal/bytealg.MakeNoZero"], unfollowed := true, recurses := true, apart := false }
def FnExactChainSaid : Prop := fnExactChainRow.holds Try.pinned (OpenSpec.ofChange fnExactChainSpec)

/-- ITS FALSE NEIGHBOUR: 'it returns false'. Refute it at one input. -/
def fnExactChainWrong : ChangeSpec := { name := "fnExactChain", fn := fun _ => fun
  | [d1, d2, d3] => { results := [.lit (.bool false)], args := [d1, d2, d3] }
  | _ => none }
def FnExactChainWrongFalsely : Prop := fnExactChainRow.holds Try.pinned (OpenSpec.ofChange fnExactChainWrong)

/- THE SECOND FORM. 'bulk': how many values and letters a reading holds, each counted each time it is reached (what is shared counts as often as it is met; a slice's spare places count too). A statement '..UptoSaid' is the law's where the arguments, and the package variables that the reading takes, are together of bulk at most 1048576: NARROWER than '..Said'. Prove '..Said' where nothing that the law and all that it calls make is longer than what came in: it says more and counts as full. Else prove '..UptoSaid'. A law counts once. -/
mutual
def uptoBulk {H : Type} : DataW H → Nat
  | .lit (.string bytes) => bytes.length + 1
  | .lit _ => 1
  | .nil => 1
  | .ptr d => uptoBulk d + 1
  | .slice elems spare => uptoBulkAll elems + uptoBulkAll spare + 1
  | .agg parts => uptoBulkAll parts + 1
  | .iface _ d => uptoBulk d + 1
  | .map entries => uptoBulkEntries entries + 1
  | .held _ => 1
def uptoBulkAll {H : Type} : List (DataW H) → Nat
  | [] => 0
  | d :: r => uptoBulk d + uptoBulkAll r
def uptoBulkEntries {H : Type} : List (Lit × DataW H) → Nat
  | [] => 0
  | x :: r => uptoBulkEntry x + uptoBulkEntries r
def uptoBulkEntry {H : Type} : Lit × DataW H → Nat
  | (.string bytes, d) => bytes.length + uptoBulk d + 1
  | (_, d) => uptoBulk d + 1
 end
def uptoSmall : (H : Type) → List (DataW H) → Bool := fun _ ds => decide (uptoBulkAll ds ≤ 1048576)
def OpenSpec.upto (s : _root_.Go.ChangeSpec) : _root_.Go.OpenSpec := { _root_.Go.OpenSpec.ofChange s with cond := some uptoSmall }

/-- 'laws.FnExactSignerOK', WHERE WHAT IT READS IS OF BULK AT MOST 1048576: true; the input reads as it did. -/
def fnExactSignerOKUptoRow : OpenClaim := { program := "ytfgcbamnclkiiaa", sum := "406166762483478877aabf6dd762e9ba4b304f59af501d2d23c6bedc7b5bc7f3", func := "loop.example/g00220/laws.FnExactSignerOK", spec := "fnExactSignerOK", unfollowed := true, recurses := true, apart := false, narrowed := true }
def FnExactSignerOKUptoSaid : Prop := fnExactSignerOKUptoRow.holds Try.pinned (OpenSpec.upto fnExactSignerOKSpec)

/-- 'laws.FnExactPendingCall', WHERE WHAT IT READS IS OF BULK AT MOST 1048576: true; the input reads as it did. -/
def fnExactPendingCallUptoRow : OpenClaim := { program := "ytfgcbamnclkiiaa", sum := "406166762483478877aabf6dd762e9ba4b304f59af501d2d23c6bedc7b5bc7f3", func := "loop.example/g00220/laws.FnExactPendingCall", spec := "fnExactPendingCall", apart := false, narrowed := true }
def FnExactPendingCallUptoSaid : Prop := fnExactPendingCallUptoRow.holds Try.pinned (OpenSpec.upto fnExactPendingCallSpec)

/-- 'laws.FnExactNewNode', WHERE WHAT IT READS IS OF BULK AT MOST 1048576: true; the input reads as it did. -/
def fnExactNewNodeUptoRow : OpenClaim := { program := "ytfgcbamnclkiiaa", sum := "406166762483478877aabf6dd762e9ba4b304f59af501d2d23c6bedc7b5bc7f3", func := "loop.example/g00220/laws.FnExactNewNode", spec := "fnExactNewNode", unfollowed := true, recurses := true, apart := false, narrowed := true }
def FnExactNewNodeUptoSaid : Prop := fnExactNewNodeUptoRow.holds Try.pinned (OpenSpec.upto fnExactNewNodeSpec)

/-- 'laws.FnExactNodeOK', WHERE WHAT IT READS IS OF BULK AT MOST 1048576: true; the input reads as it did. -/
def fnExactNodeOKUptoRow : OpenClaim := { program := "ytfgcbamnclkiiaa", sum := "406166762483478877aabf6dd762e9ba4b304f59af501d2d23c6bedc7b5bc7f3", func := "loop.example/g00220/laws.FnExactNodeOK", spec := "fnExactNodeOK", unfollowed := true, recurses := true, apart := false, narrowed := true }
def FnExactNodeOKUptoSaid : Prop := fnExactNodeOKUptoRow.holds Try.pinned (OpenSpec.upto fnExactNodeOKSpec)

/-- 'laws.FnExactChain', WHERE WHAT IT READS IS OF BULK AT MOST 1048576: true; the input reads as it did. -/
def fnExactChainUptoRow : OpenClaim := { program := "ytfgcbamnclkiiaa", sum := "406166762483478877aabf6dd762e9ba4b304f59af501d2d23c6bedc7b5bc7f3", func := "loop.example/g00220/laws.FnExactChain", spec := "fnExactChain", inPlace := ["internal/abi.NoEscape", "internal/bytealg.MakeNoZero"], unfollowed := true, recurses := true, apart := false, narrowed := true }
def FnExactChainUptoSaid : Prop := fnExactChainUptoRow.holds Try.pinned (OpenSpec.upto fnExactChainSpec)

end Rows
end Go.Proofs.Ytfgcbamnclkiiaa
