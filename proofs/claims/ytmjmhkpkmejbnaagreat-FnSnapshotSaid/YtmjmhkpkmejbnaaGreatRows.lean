/-
  No cell of these rows narrows 'for every input' (looked for: loops, veiled, ifaces, maps, wideKeys, modest, calm, conditions, laid).
  DERIVED. THE GIVEN ROWS OF THIS SEAT. 3 by the template 'for every input the law returns true; each argument reads behind the call as it read before'; 0 by the template 'total and deterministic' (their statements: YtmjmhkpkmejbnaaGreatTotals.lean).
  GIVEN WITH THE SEED: the statements are not yours to turn. If you find one false, say at which input.
  Laid BY PROGRAM, IN A SANDBOX (cutbox-rows.mjs): the forced cells as the released guide's own fill.sh prints them over the translation d111b1d6fa8f61c9… (all of the seat's roots in one cut). By AI agents, Wed Nov 11 2026. No macro, syntax, notation, axiom, sorry.
-/
import Derived.Test.YtmjmhkpkmejbnaaGreatChecked
import GoSem.Claim
import GoSem.ClaimJoined
import GoSem.ClaimMapViews
import Derived.JoinedTies
import Derived.KernelRfl
namespace Go.Proofs.YtmjmhkpkmejbnaaGreat
/- THE CELL 'sum', in the pinned program and in every row, IS THE sha256 OF THE DUMP (.gsa) THAT YtmjmhkpkmejbnaaGreatProg.lean LOADS. Nothing in Lean hashes anything: it is a label: what it is worth is what the hold of that sum in a sandbox is worth. -/
noncomputable def Tryz.pinned : Pinned := { name := "ytmjmhkpkmejbnaagreat", sum := "d111b1d6fa8f61c9c01ab7244e31d6cf2b4c7c394e6974436bd3096b1904777d", checked := Tryz.checked }
namespace Rows
def none {H : Type} : Left H := { results := [], args := [] }

/-- 'laws.FnAnswers': WHATEVER THE INPUT: true; the input reads as it did. -/
def fnAnswersSpec : ChangeSpec := { name := "fnAnswers", fn := fun _ => fun
  | [d1, d2] => { results := [.lit (.bool true)], args := [d1, d2] }
  | _ => none }
def fnAnswersRow : OpenClaim := { program := "ytmjmhkpkmejbnaagreat", sum := "d111b1d6fa8f61c9c01ab7244e31d6cf2b4c7c394e6974436bd3096b1904777d", func := "loop.example/g00220/laws.FnAnswers", spec := "fnAnswers", inPlace := ["slices.overlaps[loop.example/g00220/impl.Session]", "internal/abi.NoEscape", "internal/bytealg.MakeNoZero", "internal/bytealg.abigen_runtime_cmpstring", "slices.overlaps[loop.example/g00220/impl.pairOf]"], unfollowed := true, recurses := true, apart := false }
def FnAnswersSaid : Prop := fnAnswersRow.holds Tryz.pinned (OpenSpec.ofChange fnAnswersSpec)

/-- ITS FALSE NEIGHBOUR: 'it returns false'. Refute it at one input. -/
def fnAnswersWrong : ChangeSpec := { name := "fnAnswers", fn := fun _ => fun
  | [d1, d2] => { results := [.lit (.bool false)], args := [d1, d2] }
  | _ => none }
def FnAnswersWrongFalsely : Prop := fnAnswersRow.holds Tryz.pinned (OpenSpec.ofChange fnAnswersWrong)

/-- 'laws.FnLedger': WHATEVER THE INPUT: true; the input reads as it did. -/
def fnLedgerSpec : ChangeSpec := { name := "fnLedger", fn := fun _ => fun
  | [d] => { results := [.lit (.bool true)], args := [d] }
  | _ => none }
def fnLedgerRow : OpenClaim := { program := "ytmjmhkpkmejbnaagreat", sum := "d111b1d6fa8f61c9c01ab7244e31d6cf2b4c7c394e6974436bd3096b1904777d", func := "loop.example/g00220/laws.FnLedger", spec := "fnLedger", inPlace := ["slices.overlaps[loop.example/g00220/impl.Session]", "internal/abi.NoEscape", "internal/bytealg.MakeNoZero", "internal/bytealg.abigen_runtime_cmpstring", "slices.overlaps[loop.example/g00220/impl.pairOf]"], unfollowed := true, recurses := true, apart := false }
def FnLedgerSaid : Prop := fnLedgerRow.holds Tryz.pinned (OpenSpec.ofChange fnLedgerSpec)

/-- ITS FALSE NEIGHBOUR: 'it returns false'. Refute it at one input. -/
def fnLedgerWrong : ChangeSpec := { name := "fnLedger", fn := fun _ => fun
  | [d] => { results := [.lit (.bool false)], args := [d] }
  | _ => none }
def FnLedgerWrongFalsely : Prop := fnLedgerRow.holds Tryz.pinned (OpenSpec.ofChange fnLedgerWrong)

/-- 'laws.FnSnapshot': WHATEVER THE INPUT: true; the input reads as it did. -/
def fnSnapshotSpec : ChangeSpec := { name := "fnSnapshot", fn := fun _ => fun
  | [d1, d2] => { results := [.lit (.bool true)], args := [d1, d2] }
  | _ => none }
def fnSnapshotRow : OpenClaim := { program := "ytmjmhkpkmejbnaagreat", sum := "d111b1d6fa8f61c9c01ab7244e31d6cf2b4c7c394e6974436bd3096b1904777d", func := "loop.example/g00220/laws.FnSnapshot", spec := "fnSnapshot", inPlace := ["internal/abi.NoEscape", "internal/bytealg.MakeNoZero", "slices.overlaps[loop.example/g00220/impl.Session]", "internal/bytealg.abigen_runtime_cmpstring", "slices.overlaps[loop.example/g00220/impl.pairOf]"], unfollowed := true, recurses := true, apart := false }
def FnSnapshotSaid : Prop := fnSnapshotRow.holds Tryz.pinned (OpenSpec.ofChange fnSnapshotSpec)

/-- ITS FALSE NEIGHBOUR: 'it returns false'. Refute it at one input. -/
def fnSnapshotWrong : ChangeSpec := { name := "fnSnapshot", fn := fun _ => fun
  | [d1, d2] => { results := [.lit (.bool false)], args := [d1, d2] }
  | _ => none }
def FnSnapshotWrongFalsely : Prop := fnSnapshotRow.holds Tryz.pinned (OpenSpec.ofChange fnSnapshotWrong)

/- THE SECOND FORM. 'bulk': how many values and letters a reading holds, each counted each time it is reached (what is shared counts as often as it is met; a slice's spare places count too). A statement '..UptoSaid' is the law's where the arguments, and the package variables that the reading takes, are together of bulk at most 1048576: NARROWER than '..Said'. Prove '..Said' where nothing that the law and all that it calls make is longer than what came in: it says more and counts as full. Else prove '..UptoSaid'. A law counts once. -/
mutual
def uptoBulk {H : Type} : DataW H → Nat
  | .lit (.string bytes) => bytes.length + 1
  | .lit _ => 1
  | .nil => 1
  | .ptr d => uptoBulk d + 1
  | .slice elems spare => uptoBulkAll elems + uptoBulkAll spare + 1
  | .agg parts => uptoBulkAll parts + 1
  | .iface _ d => uptoBulk d + 1
  | .map entries => uptoBulkEntries entries + 1
  | .held _ => 1
def uptoBulkAll {H : Type} : List (DataW H) → Nat
  | [] => 0
  | d :: r => uptoBulk d + uptoBulkAll r
def uptoBulkEntries {H : Type} : List (Lit × DataW H) → Nat
  | [] => 0
  | x :: r => uptoBulkEntry x + uptoBulkEntries r
def uptoBulkEntry {H : Type} : Lit × DataW H → Nat
  | (.string bytes, d) => bytes.length + uptoBulk d + 1
  | (_, d) => uptoBulk d + 1
 end
def uptoSmall : (H : Type) → List (DataW H) → Bool := fun _ ds => decide (uptoBulkAll ds ≤ 1048576)
def OpenSpec.upto (s : _root_.Go.ChangeSpec) : _root_.Go.OpenSpec := { _root_.Go.OpenSpec.ofChange s with cond := some uptoSmall }

/-- 'laws.FnAnswers', WHERE WHAT IT READS IS OF BULK AT MOST 1048576: true; the input reads as it did. -/
def fnAnswersUptoRow : OpenClaim := { program := "ytmjmhkpkmejbnaagreat", sum := "d111b1d6fa8f61c9c01ab7244e31d6cf2b4c7c394e6974436bd3096b1904777d", func := "loop.example/g00220/laws.FnAnswers", spec := "fnAnswers", inPlace := ["slices.overlaps[loop.example/g00220/impl.Session]", "internal/abi.NoEscape", "internal/bytealg.MakeNoZero", "internal/bytealg.abigen_runtime_cmpstring", "slices.overlaps[loop.example/g00220/impl.pairOf]"], unfollowed := true, recurses := true, apart := false, narrowed := true }
def FnAnswersUptoSaid : Prop := fnAnswersUptoRow.holds Tryz.pinned (OpenSpec.upto fnAnswersSpec)

/-- 'laws.FnLedger', WHERE WHAT IT READS IS OF BULK AT MOST 1048576: true; the input reads as it did. -/
def fnLedgerUptoRow : OpenClaim := { program := "ytmjmhkpkmejbnaagreat", sum := "d111b1d6fa8f61c9c01ab7244e31d6cf2b4c7c394e6974436bd3096b1904777d", func := "loop.example/g00220/laws.FnLedger", spec := "fnLedger", inPlace := ["slices.overlaps[loop.example/g00220/impl.Session]", "internal/abi.NoEscape", "internal/bytealg.MakeNoZero", "internal/bytealg.abigen_runtime_cmpstring", "slices.overlaps[loop.example/g00220/impl.pairOf]"], unfollowed := true, recurses := true, apart := false, narrowed := true }
def FnLedgerUptoSaid : Prop := fnLedgerUptoRow.holds Tryz.pinned (OpenSpec.upto fnLedgerSpec)

/-- 'laws.FnSnapshot', WHERE WHAT IT READS IS OF BULK AT MOST 1048576: true; the input reads as it did. -/
def fnSnapshotUptoRow : OpenClaim := { program := "ytmjmhkpkmejbnaagreat", sum := "d111b1d6fa8f61c9c01ab7244e31d6cf2b4c7c394e6974436bd3096b1904777d", func := "loop.example/g00220/laws.FnSnapshot", spec := "fnSnapshot", inPlace := ["internal/abi.NoEscape", "internal/bytealg.MakeNoZero", "slices.overlaps[loop.example/g00220/impl.Session]", "internal/bytealg.abigen_runtime_cmpstring", "slices.overlaps[loop.example/g00220/impl.pairOf]"], unfollowed := true, recurses := true, apart := false, narrowed := true }
def FnSnapshotUptoSaid : Prop := fnSnapshotUptoRow.holds Tryz.pinned (OpenSpec.upto fnSnapshotSpec)

end Rows
end Go.Proofs.YtmjmhkpkmejbnaaGreat
