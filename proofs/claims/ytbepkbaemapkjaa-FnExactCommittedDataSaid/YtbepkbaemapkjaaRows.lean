/-
  No cell of these rows narrows 'for every input' (looked for: loops, veiled, ifaces, maps, wideKeys, modest, calm, conditions, laid).
  DERIVED. THE GIVEN ROWS OF THIS SEAT. 5 by the template 'for every input the law returns true; each argument reads behind the call as it read before'; 0 by the template 'total and deterministic' (their statements: YtbepkbaemapkjaaTotals.lean).
  GIVEN WITH THE SEED: the statements are not yours to turn. If you find one false, say at which input.
  Laid BY PROGRAM, IN A SANDBOX (cutbox-rows.mjs): the forced cells as the released guide's own fill.sh prints them over the translation 14fa00897d58d3f8… (all of the seat's roots in one cut). By AI agents, Wed Nov 11 2026. No macro, syntax, notation, axiom, sorry.
-/
import Derived.Test.YtbepkbaemapkjaaChecked
import GoSem.Claim
import GoSem.ClaimJoined
import GoSem.ClaimMapViews
import Derived.JoinedTies
import Derived.KernelRfl
namespace Go.Proofs.Ytbepkbaemapkjaa
/- THE CELL 'sum', in the pinned program and in every row, IS THE sha256 OF THE DUMP (.gsa) THAT YtbepkbaemapkjaaProg.lean LOADS. Nothing in Lean hashes anything: it is a label: what it is worth is what the hold of that sum in a sandbox is worth. -/
noncomputable def Try.pinned : Pinned := { name := "ytbepkbaemapkjaa", sum := "14fa00897d58d3f8fafe55e41a5a674840897b07798c14eb2e25ae5386723a2c", checked := Try.checked }
namespace Rows
def none {H : Type} : Left H := { results := [], args := [] }

/-- 'laws.FnExactCommitsAgree': WHATEVER THE INPUT: true; the input reads as it did. -/
def fnExactCommitsAgreeSpec : ChangeSpec := { name := "fnExactCommitsAgree", fn := fun _ => fun
  | [d] => { results := [.lit (.bool true)], args := [d] }
  | _ => none }
def fnExactCommitsAgreeRow : OpenClaim := { program := "ytbepkbaemapkjaa", sum := "14fa00897d58d3f8fafe55e41a5a674840897b07798c14eb2e25ae5386723a2c", func := "loop.example/g00220/laws.FnExactCommitsAgree", spec := "fnExactCommitsAgree", unfollowed := true, recurses := true, apart := false }
def FnExactCommitsAgreeSaid : Prop := fnExactCommitsAgreeRow.holds Try.pinned (OpenSpec.ofChange fnExactCommitsAgreeSpec)

/-- ITS FALSE NEIGHBOUR: 'it returns false'. Refute it at one input. -/
def fnExactCommitsAgreeWrong : ChangeSpec := { name := "fnExactCommitsAgree", fn := fun _ => fun
  | [d] => { results := [.lit (.bool false)], args := [d] }
  | _ => none }
def FnExactCommitsAgreeWrongFalsely : Prop := fnExactCommitsAgreeRow.holds Try.pinned (OpenSpec.ofChange fnExactCommitsAgreeWrong)

/-- 'laws.FnExactLeadersComplete': WHATEVER THE INPUT: true; the input reads as it did. -/
def fnExactLeadersCompleteSpec : ChangeSpec := { name := "fnExactLeadersComplete", fn := fun _ => fun
  | [d] => { results := [.lit (.bool true)], args := [d] }
  | _ => none }
def fnExactLeadersCompleteRow : OpenClaim := { program := "ytbepkbaemapkjaa", sum := "14fa00897d58d3f8fafe55e41a5a674840897b07798c14eb2e25ae5386723a2c", func := "loop.example/g00220/laws.FnExactLeadersComplete", spec := "fnExactLeadersComplete", unfollowed := true, recurses := true, apart := false }
def FnExactLeadersCompleteSaid : Prop := fnExactLeadersCompleteRow.holds Try.pinned (OpenSpec.ofChange fnExactLeadersCompleteSpec)

/-- ITS FALSE NEIGHBOUR: 'it returns false'. Refute it at one input. -/
def fnExactLeadersCompleteWrong : ChangeSpec := { name := "fnExactLeadersComplete", fn := fun _ => fun
  | [d] => { results := [.lit (.bool false)], args := [d] }
  | _ => none }
def FnExactLeadersCompleteWrongFalsely : Prop := fnExactLeadersCompleteRow.holds Try.pinned (OpenSpec.ofChange fnExactLeadersCompleteWrong)

/-- 'laws.FnExactOneLeader': WHATEVER THE INPUT: true; the input reads as it did. -/
def fnExactOneLeaderSpec : ChangeSpec := { name := "fnExactOneLeader", fn := fun _ => fun
  | [d] => { results := [.lit (.bool true)], args := [d] }
  | _ => none }
def fnExactOneLeaderRow : OpenClaim := { program := "ytbepkbaemapkjaa", sum := "14fa00897d58d3f8fafe55e41a5a674840897b07798c14eb2e25ae5386723a2c", func := "loop.example/g00220/laws.FnExactOneLeader", spec := "fnExactOneLeader", unfollowed := true, recurses := true, apart := false }
def FnExactOneLeaderSaid : Prop := fnExactOneLeaderRow.holds Try.pinned (OpenSpec.ofChange fnExactOneLeaderSpec)

/-- ITS FALSE NEIGHBOUR: 'it returns false'. Refute it at one input. -/
def fnExactOneLeaderWrong : ChangeSpec := { name := "fnExactOneLeader", fn := fun _ => fun
  | [d] => { results := [.lit (.bool false)], args := [d] }
  | _ => none }
def FnExactOneLeaderWrongFalsely : Prop := fnExactOneLeaderRow.holds Try.pinned (OpenSpec.ofChange fnExactOneLeaderWrong)

/-- 'laws.FnExactCommittedData': WHATEVER THE INPUT: true; the input reads as it did. -/
def fnExactCommittedDataSpec : ChangeSpec := { name := "fnExactCommittedData", fn := fun _ => fun
  | [d] => { results := [.lit (.bool true)], args := [d] }
  | _ => none }
def fnExactCommittedDataRow : OpenClaim := { program := "ytbepkbaemapkjaa", sum := "14fa00897d58d3f8fafe55e41a5a674840897b07798c14eb2e25ae5386723a2c", func := "loop.example/g00220/laws.FnExactCommittedData", spec := "fnExactCommittedData", unfollowed := true, recurses := true, apart := false }
def FnExactCommittedDataSaid : Prop := fnExactCommittedDataRow.holds Try.pinned (OpenSpec.ofChange fnExactCommittedDataSpec)

/-- ITS FALSE NEIGHBOUR: 'it returns false'. Refute it at one input. -/
def fnExactCommittedDataWrong : ChangeSpec := { name := "fnExactCommittedData", fn := fun _ => fun
  | [d] => { results := [.lit (.bool false)], args := [d] }
  | _ => none }
def FnExactCommittedDataWrongFalsely : Prop := fnExactCommittedDataRow.holds Try.pinned (OpenSpec.ofChange fnExactCommittedDataWrong)

/-- 'laws.FnConfigs': WHATEVER THE INPUT: true; the input reads as it did. -/
def fnConfigsSpec : ChangeSpec := { name := "fnConfigs", fn := fun _ => fun
  | [d1, d2] => { results := [.lit (.bool true)], args := [d1, d2] }
  | _ => none }
def fnConfigsRow : OpenClaim := { program := "ytbepkbaemapkjaa", sum := "14fa00897d58d3f8fafe55e41a5a674840897b07798c14eb2e25ae5386723a2c", func := "loop.example/g00220/laws.FnConfigs", spec := "fnConfigs", unfollowed := true, recurses := true, apart := false }
def FnConfigsSaid : Prop := fnConfigsRow.holds Try.pinned (OpenSpec.ofChange fnConfigsSpec)

/-- ITS FALSE NEIGHBOUR: 'it returns false'. Refute it at one input. -/
def fnConfigsWrong : ChangeSpec := { name := "fnConfigs", fn := fun _ => fun
  | [d1, d2] => { results := [.lit (.bool false)], args := [d1, d2] }
  | _ => none }
def FnConfigsWrongFalsely : Prop := fnConfigsRow.holds Try.pinned (OpenSpec.ofChange fnConfigsWrong)

/- THE SECOND FORM. 'bulk': how many values and letters a reading holds, each counted each time it is reached (what is shared counts as often as it is met; a slice's spare places count too). A statement '..UptoSaid' is the law's where the arguments, and the package variables that the reading takes, are together of bulk at most 1048576: NARROWER than '..Said'. Prove '..Said' where nothing that the law and all that it calls make is longer than what came in: it says more and counts as full. Else prove '..UptoSaid'. A law counts once. -/
mutual
def uptoBulk {H : Type} : DataW H → Nat
  | .lit (.string bytes) => bytes.length + 1
  | .lit _ => 1
  | .nil => 1
  | .ptr d => uptoBulk d + 1
  | .slice elems spare => uptoBulkAll elems + uptoBulkAll spare + 1
  | .agg parts => uptoBulkAll parts + 1
  | .iface _ d => uptoBulk d + 1
  | .map entries => uptoBulkEntries entries + 1
  | .held _ => 1
def uptoBulkAll {H : Type} : List (DataW H) → Nat
  | [] => 0
  | d :: r => uptoBulk d + uptoBulkAll r
def uptoBulkEntries {H : Type} : List (Lit × DataW H) → Nat
  | [] => 0
  | x :: r => uptoBulkEntry x + uptoBulkEntries r
def uptoBulkEntry {H : Type} : Lit × DataW H → Nat
  | (.string bytes, d) => bytes.length + uptoBulk d + 1
  | (_, d) => uptoBulk d + 1
 end
def uptoSmall : (H : Type) → List (DataW H) → Bool := fun _ ds => decide (uptoBulkAll ds ≤ 1048576)
def OpenSpec.upto (s : _root_.Go.ChangeSpec) : _root_.Go.OpenSpec := { _root_.Go.OpenSpec.ofChange s with cond := some uptoSmall }

/-- 'laws.FnExactCommitsAgree', WHERE WHAT IT READS IS OF BULK AT MOST 1048576: true; the input reads as it did. -/
def fnExactCommitsAgreeUptoRow : OpenClaim := { program := "ytbepkbaemapkjaa", sum := "14fa00897d58d3f8fafe55e41a5a674840897b07798c14eb2e25ae5386723a2c", func := "loop.example/g00220/laws.FnExactCommitsAgree", spec := "fnExactCommitsAgree", unfollowed := true, recurses := true, apart := false, narrowed := true }
def FnExactCommitsAgreeUptoSaid : Prop := fnExactCommitsAgreeUptoRow.holds Try.pinned (OpenSpec.upto fnExactCommitsAgreeSpec)

/-- 'laws.FnExactLeadersComplete', WHERE WHAT IT READS IS OF BULK AT MOST 1048576: true; the input reads as it did. -/
def fnExactLeadersCompleteUptoRow : OpenClaim := { program := "ytbepkbaemapkjaa", sum := "14fa00897d58d3f8fafe55e41a5a674840897b07798c14eb2e25ae5386723a2c", func := "loop.example/g00220/laws.FnExactLeadersComplete", spec := "fnExactLeadersComplete", unfollowed := true, recurses := true, apart := false, narrowed := true }
def FnExactLeadersCompleteUptoSaid : Prop := fnExactLeadersCompleteUptoRow.holds Try.pinned (OpenSpec.upto fnExactLeadersCompleteSpec)

/-- 'laws.FnExactOneLeader', WHERE WHAT IT READS IS OF BULK AT MOST 1048576: true; the input reads as it did. -/
def fnExactOneLeaderUptoRow : OpenClaim := { program := "ytbepkbaemapkjaa", sum := "14fa00897d58d3f8fafe55e41a5a674840897b07798c14eb2e25ae5386723a2c", func := "loop.example/g00220/laws.FnExactOneLeader", spec := "fnExactOneLeader", unfollowed := true, recurses := true, apart := false, narrowed := true }
def FnExactOneLeaderUptoSaid : Prop := fnExactOneLeaderUptoRow.holds Try.pinned (OpenSpec.upto fnExactOneLeaderSpec)

/-- 'laws.FnExactCommittedData', WHERE WHAT IT READS IS OF BULK AT MOST 1048576: true; the input reads as it did. -/
def fnExactCommittedDataUptoRow : OpenClaim := { program := "ytbepkbaemapkjaa", sum := "14fa00897d58d3f8fafe55e41a5a674840897b07798c14eb2e25ae5386723a2c", func := "loop.example/g00220/laws.FnExactCommittedData", spec := "fnExactCommittedData", unfollowed := true, recurses := true, apart := false, narrowed := true }
def FnExactCommittedDataUptoSaid : Prop := fnExactCommittedDataUptoRow.holds Try.pinned (OpenSpec.upto fnExactCommittedDataSpec)

/-- 'laws.FnConfigs', WHERE WHAT IT READS IS OF BULK AT MOST 1048576: true; the input reads as it did. -/
def fnConfigsUptoRow : OpenClaim := { program := "ytbepkbaemapkjaa", sum := "14fa00897d58d3f8fafe55e41a5a674840897b07798c14eb2e25ae5386723a2c", func := "loop.example/g00220/laws.FnConfigs", spec := "fnConfigs", unfollowed := true, recurses := true, apart := false, narrowed := true }
def FnConfigsUptoSaid : Prop := fnConfigsUptoRow.holds Try.pinned (OpenSpec.upto fnConfigsSpec)

end Rows
end Go.Proofs.Ytbepkbaemapkjaa
