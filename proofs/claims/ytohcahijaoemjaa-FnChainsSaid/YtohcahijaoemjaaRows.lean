/-
  No cell of these rows narrows 'for every input' (looked for: loops, veiled, ifaces, maps, wideKeys, modest, calm, conditions, laid).
  DERIVED. THE GIVEN ROWS OF THIS SEAT. 11 by the template 'for every input the law returns true; each argument reads behind the call as it read before'; 0 by the template 'total and deterministic' (their statements: YtohcahijaoemjaaTotals.lean).
  GIVEN WITH THE SEED: the statements are not yours to turn. If you find one false, say at which input.
  Laid BY PROGRAM, IN A SANDBOX (cutbox-rows.mjs): the forced cells as the released guide's own fill.sh prints them over the translation 5aae829f9e731993… (all of the seat's roots in one cut). By AI agents, Wed Nov 11 2026. No macro, syntax, notation, axiom, sorry.
-/
import Derived.Test.YtohcahijaoemjaaChecked
import GoSem.Claim
import GoSem.ClaimJoined
import GoSem.ClaimMapViews
import Derived.JoinedTies
import Derived.KernelRfl
namespace Go.Proofs.Ytohcahijaoemjaa
/- THE CELL 'sum', in the pinned program and in every row, IS THE sha256 OF THE DUMP (.gsa) THAT YtohcahijaoemjaaProg.lean LOADS. Nothing in Lean hashes anything: it is a label: what it is worth is what the hold of that sum in a sandbox is worth. -/
noncomputable def Try.pinned : Pinned := { name := "ytohcahijaoemjaa", sum := "5aae829f9e7319934291de6840124981025b7c9b176e6b6b8ba6307aaf363b09", checked := Try.checked }
namespace Rows
def none {H : Type} : Left H := { results := [], args := [] }

/-- 'laws.FnExactChain': WHATEVER THE INPUT: true; the input reads as it did. -/
def fnExactChainSpec : ChangeSpec := { name := "fnExactChain", fn := fun _ => fun
  | [d1, d2, d3] => { results := [.lit (.bool true)], args := [d1, d2, d3] }
  | _ => none }
def fnExactChainRow : OpenClaim := { program := "ytohcahijaoemjaa", sum := "5aae829f9e7319934291de6840124981025b7c9b176e6b6b8ba6307aaf363b09", func := "loop.example/g00220/laws.FnExactChain", spec := "fnExactChain", inPlace := ["internal/abi.NoEscape", "internal/bytealg.MakeNoZero"], unfollowed := true, recurses := true, apart := false }
def FnExactChainSaid : Prop := fnExactChainRow.holds Try.pinned (OpenSpec.ofChange fnExactChainSpec)

/-- ITS FALSE NEIGHBOUR: 'it returns false'. Refute it at one input. -/
def fnExactChainWrong : ChangeSpec := { name := "fnExactChain", fn := fun _ => fun
  | [d1, d2, d3] => { results := [.lit (.bool false)], args := [d1, d2, d3] }
  | _ => none }
def FnExactChainWrongFalsely : Prop := fnExactChainRow.holds Try.pinned (OpenSpec.ofChange fnExactChainWrong)

/-- 'laws.FnExactSecretPart': WHATEVER THE INPUT: true; the input reads as it did. -/
def fnExactSecretPartSpec : ChangeSpec := { name := "fnExactSecretPart", fn := fun _ => fun
  | [d1, d2, d3] => { results := [.lit (.bool true)], args := [d1, d2, d3] }
  | _ => none }
def fnExactSecretPartRow : OpenClaim := { program := "ytohcahijaoemjaa", sum := "5aae829f9e7319934291de6840124981025b7c9b176e6b6b8ba6307aaf363b09", func := "loop.example/g00220/laws.FnExactSecretPart", spec := "fnExactSecretPart", inPlace := ["internal/abi.NoEscape", "internal/bytealg.MakeNoZero"], unfollowed := true, recurses := true, apart := false }
def FnExactSecretPartSaid : Prop := fnExactSecretPartRow.holds Try.pinned (OpenSpec.ofChange fnExactSecretPartSpec)

/-- ITS FALSE NEIGHBOUR: 'it returns false'. Refute it at one input. -/
def fnExactSecretPartWrong : ChangeSpec := { name := "fnExactSecretPart", fn := fun _ => fun
  | [d1, d2, d3] => { results := [.lit (.bool false)], args := [d1, d2, d3] }
  | _ => none }
def FnExactSecretPartWrongFalsely : Prop := fnExactSecretPartRow.holds Try.pinned (OpenSpec.ofChange fnExactSecretPartWrong)

/-- 'laws.FnExactDigits': WHATEVER THE INPUT: true; the input reads as it did. -/
def fnExactDigitsSpec : ChangeSpec := { name := "fnExactDigits", fn := fun _ => fun
  | [d] => { results := [.lit (.bool true)], args := [d] }
  | _ => none }
def fnExactDigitsRow : OpenClaim := { program := "ytohcahijaoemjaa", sum := "5aae829f9e7319934291de6840124981025b7c9b176e6b6b8ba6307aaf363b09", func := "loop.example/g00220/laws.FnExactDigits", spec := "fnExactDigits", inPlace := ["internal/abi.NoEscape", "internal/bytealg.MakeNoZero"], unfollowed := true, recurses := true, apart := false }
def FnExactDigitsSaid : Prop := fnExactDigitsRow.holds Try.pinned (OpenSpec.ofChange fnExactDigitsSpec)

/-- ITS FALSE NEIGHBOUR: 'it returns false'. Refute it at one input. -/
def fnExactDigitsWrong : ChangeSpec := { name := "fnExactDigits", fn := fun _ => fun
  | [d] => { results := [.lit (.bool false)], args := [d] }
  | _ => none }
def FnExactDigitsWrongFalsely : Prop := fnExactDigitsRow.holds Try.pinned (OpenSpec.ofChange fnExactDigitsWrong)

/-- 'laws.FnExactLeafKey': WHATEVER THE INPUT: true; the input reads as it did. -/
def fnExactLeafKeySpec : ChangeSpec := { name := "fnExactLeafKey", fn := fun _ => fun
  | [d1, d2] => { results := [.lit (.bool true)], args := [d1, d2] }
  | _ => none }
def fnExactLeafKeyRow : OpenClaim := { program := "ytohcahijaoemjaa", sum := "5aae829f9e7319934291de6840124981025b7c9b176e6b6b8ba6307aaf363b09", func := "loop.example/g00220/laws.FnExactLeafKey", spec := "fnExactLeafKey", inPlace := ["internal/abi.NoEscape", "internal/bytealg.MakeNoZero"], unfollowed := true, recurses := true, apart := false }
def FnExactLeafKeySaid : Prop := fnExactLeafKeyRow.holds Try.pinned (OpenSpec.ofChange fnExactLeafKeySpec)

/-- ITS FALSE NEIGHBOUR: 'it returns false'. Refute it at one input. -/
def fnExactLeafKeyWrong : ChangeSpec := { name := "fnExactLeafKey", fn := fun _ => fun
  | [d1, d2] => { results := [.lit (.bool false)], args := [d1, d2] }
  | _ => none }
def FnExactLeafKeyWrongFalsely : Prop := fnExactLeafKeyRow.holds Try.pinned (OpenSpec.ofChange fnExactLeafKeyWrong)

/-- 'laws.FnExactPublicRoot': WHATEVER THE INPUT: true; the input reads as it did. -/
def fnExactPublicRootSpec : ChangeSpec := { name := "fnExactPublicRoot", fn := fun _ => fun
  | [d] => { results := [.lit (.bool true)], args := [d] }
  | _ => none }
def fnExactPublicRootRow : OpenClaim := { program := "ytohcahijaoemjaa", sum := "5aae829f9e7319934291de6840124981025b7c9b176e6b6b8ba6307aaf363b09", func := "loop.example/g00220/laws.FnExactPublicRoot", spec := "fnExactPublicRoot", inPlace := ["internal/abi.NoEscape", "internal/bytealg.MakeNoZero"], unfollowed := true, recurses := true, apart := false }
def FnExactPublicRootSaid : Prop := fnExactPublicRootRow.holds Try.pinned (OpenSpec.ofChange fnExactPublicRootSpec)

/-- ITS FALSE NEIGHBOUR: 'it returns false'. Refute it at one input. -/
def fnExactPublicRootWrong : ChangeSpec := { name := "fnExactPublicRoot", fn := fun _ => fun
  | [d] => { results := [.lit (.bool false)], args := [d] }
  | _ => none }
def FnExactPublicRootWrongFalsely : Prop := fnExactPublicRootRow.holds Try.pinned (OpenSpec.ofChange fnExactPublicRootWrong)

/-- 'laws.FnChains': WHATEVER THE INPUT: true; the input reads as it did. -/
def fnChainsSpec : ChangeSpec := { name := "fnChains", fn := fun _ => fun
  | [d1, d2] => { results := [.lit (.bool true)], args := [d1, d2] }
  | _ => none }
def fnChainsRow : OpenClaim := { program := "ytohcahijaoemjaa", sum := "5aae829f9e7319934291de6840124981025b7c9b176e6b6b8ba6307aaf363b09", func := "loop.example/g00220/laws.FnChains", spec := "fnChains", inPlace := ["internal/abi.NoEscape", "internal/bytealg.MakeNoZero"], unfollowed := true, recurses := true, apart := false }
def FnChainsSaid : Prop := fnChainsRow.holds Try.pinned (OpenSpec.ofChange fnChainsSpec)

/-- ITS FALSE NEIGHBOUR: 'it returns false'. Refute it at one input. -/
def fnChainsWrong : ChangeSpec := { name := "fnChains", fn := fun _ => fun
  | [d1, d2] => { results := [.lit (.bool false)], args := [d1, d2] }
  | _ => none }
def FnChainsWrongFalsely : Prop := fnChainsRow.holds Try.pinned (OpenSpec.ofChange fnChainsWrong)

/-- 'laws.FnOnce': WHATEVER THE INPUT: true; the input reads as it did. -/
def fnOnceSpec : ChangeSpec := { name := "fnOnce", fn := fun _ => fun
  | [d1, d2] => { results := [.lit (.bool true)], args := [d1, d2] }
  | _ => none }
def fnOnceRow : OpenClaim := { program := "ytohcahijaoemjaa", sum := "5aae829f9e7319934291de6840124981025b7c9b176e6b6b8ba6307aaf363b09", func := "loop.example/g00220/laws.FnOnce", spec := "fnOnce", inPlace := ["internal/abi.NoEscape", "internal/bytealg.MakeNoZero"], unfollowed := true, recurses := true, apart := false }
def FnOnceSaid : Prop := fnOnceRow.holds Try.pinned (OpenSpec.ofChange fnOnceSpec)

/-- ITS FALSE NEIGHBOUR: 'it returns false'. Refute it at one input. -/
def fnOnceWrong : ChangeSpec := { name := "fnOnce", fn := fun _ => fun
  | [d1, d2] => { results := [.lit (.bool false)], args := [d1, d2] }
  | _ => none }
def FnOnceWrongFalsely : Prop := fnOnceRow.holds Try.pinned (OpenSpec.ofChange fnOnceWrong)

/-- 'laws.FnExactVerifySignature': WHATEVER THE INPUT: true; the input reads as it did. -/
def fnExactVerifySignatureSpec : ChangeSpec := { name := "fnExactVerifySignature", fn := fun _ => fun
  | [d1, d2, d3] => { results := [.lit (.bool true)], args := [d1, d2, d3] }
  | _ => none }
def fnExactVerifySignatureRow : OpenClaim := { program := "ytohcahijaoemjaa", sum := "5aae829f9e7319934291de6840124981025b7c9b176e6b6b8ba6307aaf363b09", func := "loop.example/g00220/laws.FnExactVerifySignature", spec := "fnExactVerifySignature", inPlace := ["internal/abi.NoEscape", "internal/bytealg.MakeNoZero"], unfollowed := true, recurses := true, apart := false }
def FnExactVerifySignatureSaid : Prop := fnExactVerifySignatureRow.holds Try.pinned (OpenSpec.ofChange fnExactVerifySignatureSpec)

/-- ITS FALSE NEIGHBOUR: 'it returns false'. Refute it at one input. -/
def fnExactVerifySignatureWrong : ChangeSpec := { name := "fnExactVerifySignature", fn := fun _ => fun
  | [d1, d2, d3] => { results := [.lit (.bool false)], args := [d1, d2, d3] }
  | _ => none }
def FnExactVerifySignatureWrongFalsely : Prop := fnExactVerifySignatureRow.holds Try.pinned (OpenSpec.ofChange fnExactVerifySignatureWrong)

/-- 'laws.FnExactSignWith': WHATEVER THE INPUT: true; the input reads as it did. -/
def fnExactSignWithSpec : ChangeSpec := { name := "fnExactSignWith", fn := fun _ => fun
  | [d1, d2, d3] => { results := [.lit (.bool true)], args := [d1, d2, d3] }
  | _ => none }
def fnExactSignWithRow : OpenClaim := { program := "ytohcahijaoemjaa", sum := "5aae829f9e7319934291de6840124981025b7c9b176e6b6b8ba6307aaf363b09", func := "loop.example/g00220/laws.FnExactSignWith", spec := "fnExactSignWith", inPlace := ["internal/abi.NoEscape", "internal/bytealg.MakeNoZero"], unfollowed := true, recurses := true, apart := false }
def FnExactSignWithSaid : Prop := fnExactSignWithRow.holds Try.pinned (OpenSpec.ofChange fnExactSignWithSpec)

/-- ITS FALSE NEIGHBOUR: 'it returns false'. Refute it at one input. -/
def fnExactSignWithWrong : ChangeSpec := { name := "fnExactSignWith", fn := fun _ => fun
  | [d1, d2, d3] => { results := [.lit (.bool false)], args := [d1, d2, d3] }
  | _ => none }
def FnExactSignWithWrongFalsely : Prop := fnExactSignWithRow.holds Try.pinned (OpenSpec.ofChange fnExactSignWithWrong)

/-- 'laws.FnExactSignNext': WHATEVER THE INPUT: true; the input reads as it did. -/
def fnExactSignNextSpec : ChangeSpec := { name := "fnExactSignNext", fn := fun _ => fun
  | [d1, d2, d3] => { results := [.lit (.bool true)], args := [d1, d2, d3] }
  | _ => none }
def fnExactSignNextRow : OpenClaim := { program := "ytohcahijaoemjaa", sum := "5aae829f9e7319934291de6840124981025b7c9b176e6b6b8ba6307aaf363b09", func := "loop.example/g00220/laws.FnExactSignNext", spec := "fnExactSignNext", inPlace := ["internal/abi.NoEscape", "internal/bytealg.MakeNoZero"], unfollowed := true, recurses := true, apart := false }
def FnExactSignNextSaid : Prop := fnExactSignNextRow.holds Try.pinned (OpenSpec.ofChange fnExactSignNextSpec)

/-- ITS FALSE NEIGHBOUR: 'it returns false'. Refute it at one input. -/
def fnExactSignNextWrong : ChangeSpec := { name := "fnExactSignNext", fn := fun _ => fun
  | [d1, d2, d3] => { results := [.lit (.bool false)], args := [d1, d2, d3] }
  | _ => none }
def FnExactSignNextWrongFalsely : Prop := fnExactSignNextRow.holds Try.pinned (OpenSpec.ofChange fnExactSignNextWrong)

/-- 'laws.FnSigns': WHATEVER THE INPUT: true; the input reads as it did. -/
def fnSignsSpec : ChangeSpec := { name := "fnSigns", fn := fun _ => fun
  | [d1, d2] => { results := [.lit (.bool true)], args := [d1, d2] }
  | _ => none }
def fnSignsRow : OpenClaim := { program := "ytohcahijaoemjaa", sum := "5aae829f9e7319934291de6840124981025b7c9b176e6b6b8ba6307aaf363b09", func := "loop.example/g00220/laws.FnSigns", spec := "fnSigns", inPlace := ["internal/abi.NoEscape", "internal/bytealg.MakeNoZero"], unfollowed := true, recurses := true, apart := false }
def FnSignsSaid : Prop := fnSignsRow.holds Try.pinned (OpenSpec.ofChange fnSignsSpec)

/-- ITS FALSE NEIGHBOUR: 'it returns false'. Refute it at one input. -/
def fnSignsWrong : ChangeSpec := { name := "fnSigns", fn := fun _ => fun
  | [d1, d2] => { results := [.lit (.bool false)], args := [d1, d2] }
  | _ => none }
def FnSignsWrongFalsely : Prop := fnSignsRow.holds Try.pinned (OpenSpec.ofChange fnSignsWrong)

/- THE SECOND FORM. 'bulk': how many values and letters a reading holds, each counted each time it is reached (what is shared counts as often as it is met; a slice's spare places count too). A statement '..UptoSaid' is the law's where the arguments, and the package variables that the reading takes, are together of bulk at most 1048576: NARROWER than '..Said'. Prove '..Said' where nothing that the law and all that it calls make is longer than what came in: it says more and counts as full. Else prove '..UptoSaid'. A law counts once. -/
mutual
def uptoBulk {H : Type} : DataW H → Nat
  | .lit (.string bytes) => bytes.length + 1
  | .lit _ => 1
  | .nil => 1
  | .ptr d => uptoBulk d + 1
  | .slice elems spare => uptoBulkAll elems + uptoBulkAll spare + 1
  | .agg parts => uptoBulkAll parts + 1
  | .iface _ d => uptoBulk d + 1
  | .map entries => uptoBulkEntries entries + 1
  | .held _ => 1
def uptoBulkAll {H : Type} : List (DataW H) → Nat
  | [] => 0
  | d :: r => uptoBulk d + uptoBulkAll r
def uptoBulkEntries {H : Type} : List (Lit × DataW H) → Nat
  | [] => 0
  | x :: r => uptoBulkEntry x + uptoBulkEntries r
def uptoBulkEntry {H : Type} : Lit × DataW H → Nat
  | (.string bytes, d) => bytes.length + uptoBulk d + 1
  | (_, d) => uptoBulk d + 1
 end
def uptoSmall : (H : Type) → List (DataW H) → Bool := fun _ ds => decide (uptoBulkAll ds ≤ 1048576)
def OpenSpec.upto (s : _root_.Go.ChangeSpec) : _root_.Go.OpenSpec := { _root_.Go.OpenSpec.ofChange s with cond := some uptoSmall }

/-- 'laws.FnExactChain', WHERE WHAT IT READS IS OF BULK AT MOST 1048576: true; the input reads as it did. -/
def fnExactChainUptoRow : OpenClaim := { program := "ytohcahijaoemjaa", sum := "5aae829f9e7319934291de6840124981025b7c9b176e6b6b8ba6307aaf363b09", func := "loop.example/g00220/laws.FnExactChain", spec := "fnExactChain", inPlace := ["internal/abi.NoEscape", "internal/bytealg.MakeNoZero"], unfollowed := true, recurses := true, apart := false, narrowed := true }
def FnExactChainUptoSaid : Prop := fnExactChainUptoRow.holds Try.pinned (OpenSpec.upto fnExactChainSpec)

/-- 'laws.FnExactSecretPart', WHERE WHAT IT READS IS OF BULK AT MOST 1048576: true; the input reads as it did. -/
def fnExactSecretPartUptoRow : OpenClaim := { program := "ytohcahijaoemjaa", sum := "5aae829f9e7319934291de6840124981025b7c9b176e6b6b8ba6307aaf363b09", func := "loop.example/g00220/laws.FnExactSecretPart", spec := "fnExactSecretPart", inPlace := ["internal/abi.NoEscape", "internal/bytealg.MakeNoZero"], unfollowed := true, recurses := true, apart := false, narrowed := true }
def FnExactSecretPartUptoSaid : Prop := fnExactSecretPartUptoRow.holds Try.pinned (OpenSpec.upto fnExactSecretPartSpec)

/-- 'laws.FnExactDigits', WHERE WHAT IT READS IS OF BULK AT MOST 1048576: true; the input reads as it did. -/
def fnExactDigitsUptoRow : OpenClaim := { program := "ytohcahijaoemjaa", sum := "5aae829f9e7319934291de6840124981025b7c9b176e6b6b8ba6307aaf363b09", func := "loop.example/g00220/laws.FnExactDigits", spec := "fnExactDigits", inPlace := ["internal/abi.NoEscape", "internal/bytealg.MakeNoZero"], unfollowed := true, recurses := true, apart := false, narrowed := true }
def FnExactDigitsUptoSaid : Prop := fnExactDigitsUptoRow.holds Try.pinned (OpenSpec.upto fnExactDigitsSpec)

/-- 'laws.FnExactLeafKey', WHERE WHAT IT READS IS OF BULK AT MOST 1048576: true; the input reads as it did. -/
def fnExactLeafKeyUptoRow : OpenClaim := { program := "ytohcahijaoemjaa", sum := "5aae829f9e7319934291de6840124981025b7c9b176e6b6b8ba6307aaf363b09", func := "loop.example/g00220/laws.FnExactLeafKey", spec := "fnExactLeafKey", inPlace := ["internal/abi.NoEscape", "internal/bytealg.MakeNoZero"], unfollowed := true, recurses := true, apart := false, narrowed := true }
def FnExactLeafKeyUptoSaid : Prop := fnExactLeafKeyUptoRow.holds Try.pinned (OpenSpec.upto fnExactLeafKeySpec)

/-- 'laws.FnExactPublicRoot', WHERE WHAT IT READS IS OF BULK AT MOST 1048576: true; the input reads as it did. -/
def fnExactPublicRootUptoRow : OpenClaim := { program := "ytohcahijaoemjaa", sum := "5aae829f9e7319934291de6840124981025b7c9b176e6b6b8ba6307aaf363b09", func := "loop.example/g00220/laws.FnExactPublicRoot", spec := "fnExactPublicRoot", inPlace := ["internal/abi.NoEscape", "internal/bytealg.MakeNoZero"], unfollowed := true, recurses := true, apart := false, narrowed := true }
def FnExactPublicRootUptoSaid : Prop := fnExactPublicRootUptoRow.holds Try.pinned (OpenSpec.upto fnExactPublicRootSpec)

/-- 'laws.FnChains', WHERE WHAT IT READS IS OF BULK AT MOST 1048576: true; the input reads as it did. -/
def fnChainsUptoRow : OpenClaim := { program := "ytohcahijaoemjaa", sum := "5aae829f9e7319934291de6840124981025b7c9b176e6b6b8ba6307aaf363b09", func := "loop.example/g00220/laws.FnChains", spec := "fnChains", inPlace := ["internal/abi.NoEscape", "internal/bytealg.MakeNoZero"], unfollowed := true, recurses := true, apart := false, narrowed := true }
def FnChainsUptoSaid : Prop := fnChainsUptoRow.holds Try.pinned (OpenSpec.upto fnChainsSpec)

/-- 'laws.FnOnce', WHERE WHAT IT READS IS OF BULK AT MOST 1048576: true; the input reads as it did. -/
def fnOnceUptoRow : OpenClaim := { program := "ytohcahijaoemjaa", sum := "5aae829f9e7319934291de6840124981025b7c9b176e6b6b8ba6307aaf363b09", func := "loop.example/g00220/laws.FnOnce", spec := "fnOnce", inPlace := ["internal/abi.NoEscape", "internal/bytealg.MakeNoZero"], unfollowed := true, recurses := true, apart := false, narrowed := true }
def FnOnceUptoSaid : Prop := fnOnceUptoRow.holds Try.pinned (OpenSpec.upto fnOnceSpec)

/-- 'laws.FnExactVerifySignature', WHERE WHAT IT READS IS OF BULK AT MOST 1048576: true; the input reads as it did. -/
def fnExactVerifySignatureUptoRow : OpenClaim := { program := "ytohcahijaoemjaa", sum := "5aae829f9e7319934291de6840124981025b7c9b176e6b6b8ba6307aaf363b09", func := "loop.example/g00220/laws.FnExactVerifySignature", spec := "fnExactVerifySignature", inPlace := ["internal/abi.NoEscape", "internal/bytealg.MakeNoZero"], unfollowed := true, recurses := true, apart := false, narrowed := true }
def FnExactVerifySignatureUptoSaid : Prop := fnExactVerifySignatureUptoRow.holds Try.pinned (OpenSpec.upto fnExactVerifySignatureSpec)

/-- 'laws.FnExactSignWith', WHERE WHAT IT READS IS OF BULK AT MOST 1048576: true; the input reads as it did. -/
def fnExactSignWithUptoRow : OpenClaim := { program := "ytohcahijaoemjaa", sum := "5aae829f9e7319934291de6840124981025b7c9b176e6b6b8ba6307aaf363b09", func := "loop.example/g00220/laws.FnExactSignWith", spec := "fnExactSignWith", inPlace := ["internal/abi.NoEscape", "internal/bytealg.MakeNoZero"], unfollowed := true, recurses := true, apart := false, narrowed := true }
def FnExactSignWithUptoSaid : Prop := fnExactSignWithUptoRow.holds Try.pinned (OpenSpec.upto fnExactSignWithSpec)

/-- 'laws.FnExactSignNext', WHERE WHAT IT READS IS OF BULK AT MOST 1048576: true; the input reads as it did. -/
def fnExactSignNextUptoRow : OpenClaim := { program := "ytohcahijaoemjaa", sum := "5aae829f9e7319934291de6840124981025b7c9b176e6b6b8ba6307aaf363b09", func := "loop.example/g00220/laws.FnExactSignNext", spec := "fnExactSignNext", inPlace := ["internal/abi.NoEscape", "internal/bytealg.MakeNoZero"], unfollowed := true, recurses := true, apart := false, narrowed := true }
def FnExactSignNextUptoSaid : Prop := fnExactSignNextUptoRow.holds Try.pinned (OpenSpec.upto fnExactSignNextSpec)

/-- 'laws.FnSigns', WHERE WHAT IT READS IS OF BULK AT MOST 1048576: true; the input reads as it did. -/
def fnSignsUptoRow : OpenClaim := { program := "ytohcahijaoemjaa", sum := "5aae829f9e7319934291de6840124981025b7c9b176e6b6b8ba6307aaf363b09", func := "loop.example/g00220/laws.FnSigns", spec := "fnSigns", inPlace := ["internal/abi.NoEscape", "internal/bytealg.MakeNoZero"], unfollowed := true, recurses := true, apart := false, narrowed := true }
def FnSignsUptoSaid : Prop := fnSignsUptoRow.holds Try.pinned (OpenSpec.upto fnSignsSpec)

end Rows
end Go.Proofs.Ytohcahijaoemjaa
