/-
  NARROWER THAN 'FOR EVERY INPUT', by the rows' own cells (each row's printed sentence says how): FnExactMapDrop: loops · FnExactMapPut: loops · FnExactProveKey: loops · FnExactLedgerRoot: loops · FnExactLedgerOK: loops · FnExactSameLedger: loops.
  DERIVED. THE GIVEN ROWS OF THIS SEAT. 11 by the template 'for every input the law returns true; each argument reads behind the call as it read before'; 0 by the template 'total and deterministic' (their statements: YtojpcjbdehoibaaTotals.lean).
  GIVEN WITH THE SEED: the statements are not yours to turn. If you find one false, say at which input.
  Laid BY PROGRAM, IN A SANDBOX (cutbox-rows.mjs): the forced cells as the released guide's own fill.sh prints them over the translation 571345da9d998b18… (all of the seat's roots in one cut). By AI agents, Wed Nov 11 2026. No macro, syntax, notation, axiom, sorry.
-/
import Derived.Test.YtojpcjbdehoibaaChecked
import GoSem.Claim
import GoSem.ClaimJoined
import GoSem.ClaimMapViews
import Derived.JoinedTies
import Derived.KernelRfl
namespace Go.Proofs.Ytojpcjbdehoibaa
/- THE CELL 'sum', in the pinned program and in every row, IS THE sha256 OF THE DUMP (.gsa) THAT YtojpcjbdehoibaaProg.lean LOADS. Nothing in Lean hashes anything: it is a label: what it is worth is what the hold of that sum in a sandbox is worth. -/
noncomputable def Try.pinned : Pinned := { name := "ytojpcjbdehoibaa", sum := "571345da9d998b185e777d6a5e0b6cddf3e05a96be792f59775191e260428b79", checked := Try.checked }
namespace Rows
def none {H : Type} : Left H := { results := [], args := [] }

/-- 'laws.FnFiles': WHATEVER THE INPUT: true; the input reads as it did. -/
def fnFilesSpec : ChangeSpec := { name := "fnFiles", fn := fun _ => fun
  | [d1, d2] => { results := [.lit (.bool true)], args := [d1, d2] }
  | _ => none }
def fnFilesRow : OpenClaim := { program := "ytojpcjbdehoibaa", sum := "571345da9d998b185e777d6a5e0b6cddf3e05a96be792f59775191e260428b79", func := "loop.example/g00220/laws.FnFiles", spec := "fnFiles", inPlace := ["internal/bytealg.abigen_runtime_cmpstring", "slices.overlaps[loop.example/g00220/impl.File]"], unfollowed := true, recurses := true, apart := false }
def FnFilesSaid : Prop := fnFilesRow.holds Try.pinned (OpenSpec.ofChange fnFilesSpec)

/-- ITS FALSE NEIGHBOUR: 'it returns false'. Refute it at one input. -/
def fnFilesWrong : ChangeSpec := { name := "fnFiles", fn := fun _ => fun
  | [d1, d2] => { results := [.lit (.bool false)], args := [d1, d2] }
  | _ => none }
def FnFilesWrongFalsely : Prop := fnFilesRow.holds Try.pinned (OpenSpec.ofChange fnFilesWrong)

/-- 'laws.FnExactFileStep': WHATEVER THE INPUT: true; the input reads as it did. -/
def fnExactFileStepSpec : ChangeSpec := { name := "fnExactFileStep", fn := fun _ => fun
  | [d1, d2] => { results := [.lit (.bool true)], args := [d1, d2] }
  | _ => none }
def fnExactFileStepRow : OpenClaim := { program := "ytojpcjbdehoibaa", sum := "571345da9d998b185e777d6a5e0b6cddf3e05a96be792f59775191e260428b79", func := "loop.example/g00220/laws.FnExactFileStep", spec := "fnExactFileStep", inPlace := ["internal/bytealg.abigen_runtime_cmpstring", "slices.overlaps[loop.example/g00220/impl.File]"], unfollowed := true, recurses := true, apart := false }
def FnExactFileStepSaid : Prop := fnExactFileStepRow.holds Try.pinned (OpenSpec.ofChange fnExactFileStepSpec)

/-- ITS FALSE NEIGHBOUR: 'it returns false'. Refute it at one input. -/
def fnExactFileStepWrong : ChangeSpec := { name := "fnExactFileStep", fn := fun _ => fun
  | [d1, d2] => { results := [.lit (.bool false)], args := [d1, d2] }
  | _ => none }
def FnExactFileStepWrongFalsely : Prop := fnExactFileStepRow.holds Try.pinned (OpenSpec.ofChange fnExactFileStepWrong)

/-- 'laws.FnExactFileRun': WHATEVER THE INPUT: true; the input reads as it did. -/
def fnExactFileRunSpec : ChangeSpec := { name := "fnExactFileRun", fn := fun _ => fun
  | [d1, d2] => { results := [.lit (.bool true)], args := [d1, d2] }
  | _ => none }
def fnExactFileRunRow : OpenClaim := { program := "ytojpcjbdehoibaa", sum := "571345da9d998b185e777d6a5e0b6cddf3e05a96be792f59775191e260428b79", func := "loop.example/g00220/laws.FnExactFileRun", spec := "fnExactFileRun", inPlace := ["internal/bytealg.abigen_runtime_cmpstring", "slices.overlaps[loop.example/g00220/impl.File]"], unfollowed := true, recurses := true, apart := false }
def FnExactFileRunSaid : Prop := fnExactFileRunRow.holds Try.pinned (OpenSpec.ofChange fnExactFileRunSpec)

/-- ITS FALSE NEIGHBOUR: 'it returns false'. Refute it at one input. -/
def fnExactFileRunWrong : ChangeSpec := { name := "fnExactFileRun", fn := fun _ => fun
  | [d1, d2] => { results := [.lit (.bool false)], args := [d1, d2] }
  | _ => none }
def FnExactFileRunWrongFalsely : Prop := fnExactFileRunRow.holds Try.pinned (OpenSpec.ofChange fnExactFileRunWrong)

/-- 'laws.FnExactMapDrop': WHATEVER THE INPUT: true; the input reads as it did. -/
def fnExactMapDropSpec : ChangeSpec := { name := "fnExactMapDrop", fn := fun _ => fun
  | [d1, d2] => { results := [.lit (.bool true)], args := [d1, d2] }
  | _ => none }
def fnExactMapDropRow : OpenClaim := { program := "ytojpcjbdehoibaa", sum := "571345da9d998b185e777d6a5e0b6cddf3e05a96be792f59775191e260428b79", func := "loop.example/g00220/laws.FnExactMapDrop", spec := "fnExactMapDrop", inPlace := ["internal/abi.NoEscape", "internal/bytealg.MakeNoZero", "internal/bytealg.abigen_runtime_cmpstring"], unfollowed := true, recurses := true, loops := true, apart := false }
def FnExactMapDropSaid : Prop := fnExactMapDropRow.holds Try.pinned (OpenSpec.ofChange fnExactMapDropSpec)

/-- ITS FALSE NEIGHBOUR: 'it returns false'. Refute it at one input. -/
def fnExactMapDropWrong : ChangeSpec := { name := "fnExactMapDrop", fn := fun _ => fun
  | [d1, d2] => { results := [.lit (.bool false)], args := [d1, d2] }
  | _ => none }
def FnExactMapDropWrongFalsely : Prop := fnExactMapDropRow.holds Try.pinned (OpenSpec.ofChange fnExactMapDropWrong)

/-- 'laws.FnExactMapPut': WHATEVER THE INPUT: true; the input reads as it did. -/
def fnExactMapPutSpec : ChangeSpec := { name := "fnExactMapPut", fn := fun _ => fun
  | [d1, d2, d3] => { results := [.lit (.bool true)], args := [d1, d2, d3] }
  | _ => none }
def fnExactMapPutRow : OpenClaim := { program := "ytojpcjbdehoibaa", sum := "571345da9d998b185e777d6a5e0b6cddf3e05a96be792f59775191e260428b79", func := "loop.example/g00220/laws.FnExactMapPut", spec := "fnExactMapPut", inPlace := ["internal/abi.NoEscape", "internal/bytealg.MakeNoZero", "internal/bytealg.abigen_runtime_cmpstring", "slices.overlaps[loop.example/g00220/impl.pairOf]"], unfollowed := true, recurses := true, loops := true, apart := false }
def FnExactMapPutSaid : Prop := fnExactMapPutRow.holds Try.pinned (OpenSpec.ofChange fnExactMapPutSpec)

/-- ITS FALSE NEIGHBOUR: 'it returns false'. Refute it at one input. -/
def fnExactMapPutWrong : ChangeSpec := { name := "fnExactMapPut", fn := fun _ => fun
  | [d1, d2, d3] => { results := [.lit (.bool false)], args := [d1, d2, d3] }
  | _ => none }
def FnExactMapPutWrongFalsely : Prop := fnExactMapPutRow.holds Try.pinned (OpenSpec.ofChange fnExactMapPutWrong)

/-- 'laws.FnExactProveKey': WHATEVER THE INPUT: true; the input reads as it did. -/
def fnExactProveKeySpec : ChangeSpec := { name := "fnExactProveKey", fn := fun _ => fun
  | [d1, d2] => { results := [.lit (.bool true)], args := [d1, d2] }
  | _ => none }
def fnExactProveKeyRow : OpenClaim := { program := "ytojpcjbdehoibaa", sum := "571345da9d998b185e777d6a5e0b6cddf3e05a96be792f59775191e260428b79", func := "loop.example/g00220/laws.FnExactProveKey", spec := "fnExactProveKey", inPlace := ["internal/abi.NoEscape", "internal/bytealg.MakeNoZero"], unfollowed := true, recurses := true, loops := true, apart := false }
def FnExactProveKeySaid : Prop := fnExactProveKeyRow.holds Try.pinned (OpenSpec.ofChange fnExactProveKeySpec)

/-- ITS FALSE NEIGHBOUR: 'it returns false'. Refute it at one input. -/
def fnExactProveKeyWrong : ChangeSpec := { name := "fnExactProveKey", fn := fun _ => fun
  | [d1, d2] => { results := [.lit (.bool false)], args := [d1, d2] }
  | _ => none }
def FnExactProveKeyWrongFalsely : Prop := fnExactProveKeyRow.holds Try.pinned (OpenSpec.ofChange fnExactProveKeyWrong)

/-- 'laws.FnMap': WHATEVER THE INPUT: true; the input reads as it did. -/
def fnMapSpec : ChangeSpec := { name := "fnMap", fn := fun _ => fun
  | [d1, d2] => { results := [.lit (.bool true)], args := [d1, d2] }
  | _ => none }
def fnMapRow : OpenClaim := { program := "ytojpcjbdehoibaa", sum := "571345da9d998b185e777d6a5e0b6cddf3e05a96be792f59775191e260428b79", func := "loop.example/g00220/laws.FnMap", spec := "fnMap", inPlace := ["internal/abi.NoEscape", "internal/bytealg.MakeNoZero", "internal/bytealg.abigen_runtime_cmpstring", "slices.overlaps[loop.example/g00220/impl.pairOf]"], unfollowed := true, recurses := true, apart := false }
def FnMapSaid : Prop := fnMapRow.holds Try.pinned (OpenSpec.ofChange fnMapSpec)

/-- ITS FALSE NEIGHBOUR: 'it returns false'. Refute it at one input. -/
def fnMapWrong : ChangeSpec := { name := "fnMap", fn := fun _ => fun
  | [d1, d2] => { results := [.lit (.bool false)], args := [d1, d2] }
  | _ => none }
def FnMapWrongFalsely : Prop := fnMapRow.holds Try.pinned (OpenSpec.ofChange fnMapWrong)

/-- 'laws.FnMapDrops': WHATEVER THE INPUT: true; the input reads as it did. -/
def fnMapDropsSpec : ChangeSpec := { name := "fnMapDrops", fn := fun _ => fun
  | [d1, d2] => { results := [.lit (.bool true)], args := [d1, d2] }
  | _ => none }
def fnMapDropsRow : OpenClaim := { program := "ytojpcjbdehoibaa", sum := "571345da9d998b185e777d6a5e0b6cddf3e05a96be792f59775191e260428b79", func := "loop.example/g00220/laws.FnMapDrops", spec := "fnMapDrops", inPlace := ["internal/abi.NoEscape", "internal/bytealg.MakeNoZero", "internal/bytealg.abigen_runtime_cmpstring", "slices.overlaps[loop.example/g00220/impl.pairOf]"], unfollowed := true, recurses := true, apart := false }
def FnMapDropsSaid : Prop := fnMapDropsRow.holds Try.pinned (OpenSpec.ofChange fnMapDropsSpec)

/-- ITS FALSE NEIGHBOUR: 'it returns false'. Refute it at one input. -/
def fnMapDropsWrong : ChangeSpec := { name := "fnMapDrops", fn := fun _ => fun
  | [d1, d2] => { results := [.lit (.bool false)], args := [d1, d2] }
  | _ => none }
def FnMapDropsWrongFalsely : Prop := fnMapDropsRow.holds Try.pinned (OpenSpec.ofChange fnMapDropsWrong)

/-- 'laws.FnExactLedgerRoot': WHATEVER THE INPUT: true; the input reads as it did. -/
def fnExactLedgerRootSpec : ChangeSpec := { name := "fnExactLedgerRoot", fn := fun _ => fun
  | [d] => { results := [.lit (.bool true)], args := [d] }
  | _ => none }
def fnExactLedgerRootRow : OpenClaim := { program := "ytojpcjbdehoibaa", sum := "571345da9d998b185e777d6a5e0b6cddf3e05a96be792f59775191e260428b79", func := "loop.example/g00220/laws.FnExactLedgerRoot", spec := "fnExactLedgerRoot", inPlace := ["internal/abi.NoEscape", "internal/bytealg.MakeNoZero"], unfollowed := true, recurses := true, loops := true, apart := false }
def FnExactLedgerRootSaid : Prop := fnExactLedgerRootRow.holds Try.pinned (OpenSpec.ofChange fnExactLedgerRootSpec)

/-- ITS FALSE NEIGHBOUR: 'it returns false'. Refute it at one input. -/
def fnExactLedgerRootWrong : ChangeSpec := { name := "fnExactLedgerRoot", fn := fun _ => fun
  | [d] => { results := [.lit (.bool false)], args := [d] }
  | _ => none }
def FnExactLedgerRootWrongFalsely : Prop := fnExactLedgerRootRow.holds Try.pinned (OpenSpec.ofChange fnExactLedgerRootWrong)

/-- 'laws.FnExactLedgerOK': WHATEVER THE INPUT: true; the input reads as it did. -/
def fnExactLedgerOKSpec : ChangeSpec := { name := "fnExactLedgerOK", fn := fun _ => fun
  | [d] => { results := [.lit (.bool true)], args := [d] }
  | _ => none }
def fnExactLedgerOKRow : OpenClaim := { program := "ytojpcjbdehoibaa", sum := "571345da9d998b185e777d6a5e0b6cddf3e05a96be792f59775191e260428b79", func := "loop.example/g00220/laws.FnExactLedgerOK", spec := "fnExactLedgerOK", inPlace := ["internal/abi.NoEscape", "internal/bytealg.MakeNoZero"], unfollowed := true, recurses := true, loops := true, apart := false }
def FnExactLedgerOKSaid : Prop := fnExactLedgerOKRow.holds Try.pinned (OpenSpec.ofChange fnExactLedgerOKSpec)

/-- ITS FALSE NEIGHBOUR: 'it returns false'. Refute it at one input. -/
def fnExactLedgerOKWrong : ChangeSpec := { name := "fnExactLedgerOK", fn := fun _ => fun
  | [d] => { results := [.lit (.bool false)], args := [d] }
  | _ => none }
def FnExactLedgerOKWrongFalsely : Prop := fnExactLedgerOKRow.holds Try.pinned (OpenSpec.ofChange fnExactLedgerOKWrong)

/-- 'laws.FnExactSameLedger': WHATEVER THE INPUT: true; the input reads as it did. -/
def fnExactSameLedgerSpec : ChangeSpec := { name := "fnExactSameLedger", fn := fun _ => fun
  | [d1, d2] => { results := [.lit (.bool true)], args := [d1, d2] }
  | _ => none }
def fnExactSameLedgerRow : OpenClaim := { program := "ytojpcjbdehoibaa", sum := "571345da9d998b185e777d6a5e0b6cddf3e05a96be792f59775191e260428b79", func := "loop.example/g00220/laws.FnExactSameLedger", spec := "fnExactSameLedger", inPlace := ["internal/abi.NoEscape", "internal/bytealg.MakeNoZero"], unfollowed := true, recurses := true, loops := true, apart := false }
def FnExactSameLedgerSaid : Prop := fnExactSameLedgerRow.holds Try.pinned (OpenSpec.ofChange fnExactSameLedgerSpec)

/-- ITS FALSE NEIGHBOUR: 'it returns false'. Refute it at one input. -/
def fnExactSameLedgerWrong : ChangeSpec := { name := "fnExactSameLedger", fn := fun _ => fun
  | [d1, d2] => { results := [.lit (.bool false)], args := [d1, d2] }
  | _ => none }
def FnExactSameLedgerWrongFalsely : Prop := fnExactSameLedgerRow.holds Try.pinned (OpenSpec.ofChange fnExactSameLedgerWrong)

/- THE SECOND FORM. 'bulk': how many values and letters a reading holds, each counted each time it is reached (what is shared counts as often as it is met; a slice's spare places count too). A statement '..UptoSaid' is the law's where the arguments, and the package variables that the reading takes, are together of bulk at most 1048576: NARROWER than '..Said'. Prove '..Said' where nothing that the law and all that it calls make is longer than what came in: it says more and counts as full. Else prove '..UptoSaid'. A law counts once. -/
mutual
def uptoBulk {H : Type} : DataW H → Nat
  | .lit (.string bytes) => bytes.length + 1
  | .lit _ => 1
  | .nil => 1
  | .ptr d => uptoBulk d + 1
  | .slice elems spare => uptoBulkAll elems + uptoBulkAll spare + 1
  | .agg parts => uptoBulkAll parts + 1
  | .iface _ d => uptoBulk d + 1
  | .map entries => uptoBulkEntries entries + 1
  | .held _ => 1
def uptoBulkAll {H : Type} : List (DataW H) → Nat
  | [] => 0
  | d :: r => uptoBulk d + uptoBulkAll r
def uptoBulkEntries {H : Type} : List (Lit × DataW H) → Nat
  | [] => 0
  | x :: r => uptoBulkEntry x + uptoBulkEntries r
def uptoBulkEntry {H : Type} : Lit × DataW H → Nat
  | (.string bytes, d) => bytes.length + uptoBulk d + 1
  | (_, d) => uptoBulk d + 1
 end
def uptoSmall : (H : Type) → List (DataW H) → Bool := fun _ ds => decide (uptoBulkAll ds ≤ 1048576)
def OpenSpec.upto (s : _root_.Go.ChangeSpec) : _root_.Go.OpenSpec := { _root_.Go.OpenSpec.ofChange s with cond := some uptoSmall }

/-- 'laws.FnFiles', WHERE WHAT IT READS IS OF BULK AT MOST 1048576: true; the input reads as it did. -/
def fnFilesUptoRow : OpenClaim := { program := "ytojpcjbdehoibaa", sum := "571345da9d998b185e777d6a5e0b6cddf3e05a96be792f59775191e260428b79", func := "loop.example/g00220/laws.FnFiles", spec := "fnFiles", inPlace := ["internal/bytealg.abigen_runtime_cmpstring", "slices.overlaps[loop.example/g00220/impl.File]"], unfollowed := true, recurses := true, apart := false, narrowed := true }
def FnFilesUptoSaid : Prop := fnFilesUptoRow.holds Try.pinned (OpenSpec.upto fnFilesSpec)

/-- 'laws.FnExactFileStep', WHERE WHAT IT READS IS OF BULK AT MOST 1048576: true; the input reads as it did. -/
def fnExactFileStepUptoRow : OpenClaim := { program := "ytojpcjbdehoibaa", sum := "571345da9d998b185e777d6a5e0b6cddf3e05a96be792f59775191e260428b79", func := "loop.example/g00220/laws.FnExactFileStep", spec := "fnExactFileStep", inPlace := ["internal/bytealg.abigen_runtime_cmpstring", "slices.overlaps[loop.example/g00220/impl.File]"], unfollowed := true, recurses := true, apart := false, narrowed := true }
def FnExactFileStepUptoSaid : Prop := fnExactFileStepUptoRow.holds Try.pinned (OpenSpec.upto fnExactFileStepSpec)

/-- 'laws.FnExactFileRun', WHERE WHAT IT READS IS OF BULK AT MOST 1048576: true; the input reads as it did. -/
def fnExactFileRunUptoRow : OpenClaim := { program := "ytojpcjbdehoibaa", sum := "571345da9d998b185e777d6a5e0b6cddf3e05a96be792f59775191e260428b79", func := "loop.example/g00220/laws.FnExactFileRun", spec := "fnExactFileRun", inPlace := ["internal/bytealg.abigen_runtime_cmpstring", "slices.overlaps[loop.example/g00220/impl.File]"], unfollowed := true, recurses := true, apart := false, narrowed := true }
def FnExactFileRunUptoSaid : Prop := fnExactFileRunUptoRow.holds Try.pinned (OpenSpec.upto fnExactFileRunSpec)

/-- 'laws.FnExactMapDrop', WHERE WHAT IT READS IS OF BULK AT MOST 1048576: true; the input reads as it did. -/
def fnExactMapDropUptoRow : OpenClaim := { program := "ytojpcjbdehoibaa", sum := "571345da9d998b185e777d6a5e0b6cddf3e05a96be792f59775191e260428b79", func := "loop.example/g00220/laws.FnExactMapDrop", spec := "fnExactMapDrop", inPlace := ["internal/abi.NoEscape", "internal/bytealg.MakeNoZero", "internal/bytealg.abigen_runtime_cmpstring"], unfollowed := true, recurses := true, loops := true, apart := false, narrowed := true }
def FnExactMapDropUptoSaid : Prop := fnExactMapDropUptoRow.holds Try.pinned (OpenSpec.upto fnExactMapDropSpec)

/-- 'laws.FnExactMapPut', WHERE WHAT IT READS IS OF BULK AT MOST 1048576: true; the input reads as it did. -/
def fnExactMapPutUptoRow : OpenClaim := { program := "ytojpcjbdehoibaa", sum := "571345da9d998b185e777d6a5e0b6cddf3e05a96be792f59775191e260428b79", func := "loop.example/g00220/laws.FnExactMapPut", spec := "fnExactMapPut", inPlace := ["internal/abi.NoEscape", "internal/bytealg.MakeNoZero", "internal/bytealg.abigen_runtime_cmpstring", "slices.overlaps[loop.example/g00220/impl.pairOf]"], unfollowed := true, recurses := true, loops := true, apart := false, narrowed := true }
def FnExactMapPutUptoSaid : Prop := fnExactMapPutUptoRow.holds Try.pinned (OpenSpec.upto fnExactMapPutSpec)

/-- 'laws.FnExactProveKey', WHERE WHAT IT READS IS OF BULK AT MOST 1048576: true; the input reads as it did. -/
def fnExactProveKeyUptoRow : OpenClaim := { program := "ytojpcjbdehoibaa", sum := "571345da9d998b185e777d6a5e0b6cddf3e05a96be792f59775191e260428b79", func := "loop.example/g00220/laws.FnExactProveKey", spec := "fnExactProveKey", inPlace := ["internal/abi.NoEscape", "internal/bytealg.MakeNoZero"], unfollowed := true, recurses := true, loops := true, apart := false, narrowed := true }
def FnExactProveKeyUptoSaid : Prop := fnExactProveKeyUptoRow.holds Try.pinned (OpenSpec.upto fnExactProveKeySpec)

/-- 'laws.FnMap', WHERE WHAT IT READS IS OF BULK AT MOST 1048576: true; the input reads as it did. -/
def fnMapUptoRow : OpenClaim := { program := "ytojpcjbdehoibaa", sum := "571345da9d998b185e777d6a5e0b6cddf3e05a96be792f59775191e260428b79", func := "loop.example/g00220/laws.FnMap", spec := "fnMap", inPlace := ["internal/abi.NoEscape", "internal/bytealg.MakeNoZero", "internal/bytealg.abigen_runtime_cmpstring", "slices.overlaps[loop.example/g00220/impl.pairOf]"], unfollowed := true, recurses := true, apart := false, narrowed := true }
def FnMapUptoSaid : Prop := fnMapUptoRow.holds Try.pinned (OpenSpec.upto fnMapSpec)

/-- 'laws.FnMapDrops', WHERE WHAT IT READS IS OF BULK AT MOST 1048576: true; the input reads as it did. -/
def fnMapDropsUptoRow : OpenClaim := { program := "ytojpcjbdehoibaa", sum := "571345da9d998b185e777d6a5e0b6cddf3e05a96be792f59775191e260428b79", func := "loop.example/g00220/laws.FnMapDrops", spec := "fnMapDrops", inPlace := ["internal/abi.NoEscape", "internal/bytealg.MakeNoZero", "internal/bytealg.abigen_runtime_cmpstring", "slices.overlaps[loop.example/g00220/impl.pairOf]"], unfollowed := true, recurses := true, apart := false, narrowed := true }
def FnMapDropsUptoSaid : Prop := fnMapDropsUptoRow.holds Try.pinned (OpenSpec.upto fnMapDropsSpec)

/-- 'laws.FnExactLedgerRoot', WHERE WHAT IT READS IS OF BULK AT MOST 1048576: true; the input reads as it did. -/
def fnExactLedgerRootUptoRow : OpenClaim := { program := "ytojpcjbdehoibaa", sum := "571345da9d998b185e777d6a5e0b6cddf3e05a96be792f59775191e260428b79", func := "loop.example/g00220/laws.FnExactLedgerRoot", spec := "fnExactLedgerRoot", inPlace := ["internal/abi.NoEscape", "internal/bytealg.MakeNoZero"], unfollowed := true, recurses := true, loops := true, apart := false, narrowed := true }
def FnExactLedgerRootUptoSaid : Prop := fnExactLedgerRootUptoRow.holds Try.pinned (OpenSpec.upto fnExactLedgerRootSpec)

/-- 'laws.FnExactLedgerOK', WHERE WHAT IT READS IS OF BULK AT MOST 1048576: true; the input reads as it did. -/
def fnExactLedgerOKUptoRow : OpenClaim := { program := "ytojpcjbdehoibaa", sum := "571345da9d998b185e777d6a5e0b6cddf3e05a96be792f59775191e260428b79", func := "loop.example/g00220/laws.FnExactLedgerOK", spec := "fnExactLedgerOK", inPlace := ["internal/abi.NoEscape", "internal/bytealg.MakeNoZero"], unfollowed := true, recurses := true, loops := true, apart := false, narrowed := true }
def FnExactLedgerOKUptoSaid : Prop := fnExactLedgerOKUptoRow.holds Try.pinned (OpenSpec.upto fnExactLedgerOKSpec)

/-- 'laws.FnExactSameLedger', WHERE WHAT IT READS IS OF BULK AT MOST 1048576: true; the input reads as it did. -/
def fnExactSameLedgerUptoRow : OpenClaim := { program := "ytojpcjbdehoibaa", sum := "571345da9d998b185e777d6a5e0b6cddf3e05a96be792f59775191e260428b79", func := "loop.example/g00220/laws.FnExactSameLedger", spec := "fnExactSameLedger", inPlace := ["internal/abi.NoEscape", "internal/bytealg.MakeNoZero"], unfollowed := true, recurses := true, loops := true, apart := false, narrowed := true }
def FnExactSameLedgerUptoSaid : Prop := fnExactSameLedgerUptoRow.holds Try.pinned (OpenSpec.upto fnExactSameLedgerSpec)

end Rows
end Go.Proofs.Ytojpcjbdehoibaa
