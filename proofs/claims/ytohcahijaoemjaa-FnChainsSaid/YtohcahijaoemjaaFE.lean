/- Data of the program. -/
import Derived.Test.YtohcahijaoemjaaProg
import Derived.Test.YtohcahijaoemjaaMir27
namespace Mir.Y
set_option linter.unusedVariables false
open Go Go.Proofs Mir
structure boundsError where
  x : Int
  y : Int
  signed : Bool
  code : Int
def boundsError.dz : boundsError := ⟨(0:Int), (0:Int), false, (0:Int)⟩
structure errorAddressString where
  msg : ByteArray
  addr : Int
def errorAddressString.dz : errorAddressString := ⟨ByteArray.empty, (0:Int)⟩
structure Signer where
  Seed : ByteArray
  Used : List Bool
def Signer.dz : Signer := ⟨ByteArray.empty, []⟩
structure Signature where
  Index : Int
  Parts : List ByteArray
  Path : List ByteArray
def Signature.dz : Signature := ⟨(0:Int), [], []⟩
structure l00Src where
  code : List Int
  «at» : Int
  seed : Int
def l00Src.dz : l00Src := ⟨[], (0:Int), (0:Int)⟩
structure prover where
  proof : List ByteArray
  bad : Bool
  steps : List ByteArray
def prover.dz : prover := ⟨[], false, []⟩
def sd : Nat → SD
  | 7 => ⟨boundsError, boundsError.dz⟩
  | 8 => ⟨boundsError, boundsError.dz⟩
  | 13 => ⟨errorAddressString, errorAddressString.dz⟩
  | 14 => ⟨errorAddressString, errorAddressString.dz⟩
  | 40 => ⟨Signer, Signer.dz⟩
  | 41 => ⟨Signer, Signer.dz⟩
  | 43 => ⟨Signature, Signature.dz⟩
  | 44 => ⟨Signature, Signature.dz⟩
  | 48 => ⟨Signature, Signature.dz⟩
  | 58 => ⟨Signer, Signer.dz⟩
  | 95 => ⟨l00Src, l00Src.dz⟩
  | 96 => ⟨l00Src, l00Src.dz⟩
  | 114 => ⟨prover, prover.dz⟩
  | 115 => ⟨prover, prover.dz⟩
  | _ => ⟨Bool, false⟩
@[reducible] def S (n : Nat) : Type := (sd n).S
def ld : (n : Nat) → LD S n
  | 7 => ⟨[(.int .i64), (.int .i64), .bool, (.int .u8)], fun (x : boundsError) => (x.x, x.y, x.signed, x.code, ()), fun h => ((boundsError.mk (h.1) (h.2.1) (h.2.2.1) (h.2.2.2.1)) : boundsError), fun _ => rfl, by decide⟩
  | 8 => ⟨[(.int .i64), (.int .i64), .bool, (.int .u8)], fun (x : boundsError) => (x.x, x.y, x.signed, x.code, ()), fun h => ((boundsError.mk (h.1) (h.2.1) (h.2.2.1) (h.2.2.2.1)) : boundsError), fun _ => rfl, by decide⟩
  | 13 => ⟨[.str, (.int .u64)], fun (x : errorAddressString) => (x.msg, x.addr, ()), fun h => ((errorAddressString.mk (h.1) (h.2.1)) : errorAddressString), fun _ => rfl, by decide⟩
  | 14 => ⟨[.str, (.int .u64)], fun (x : errorAddressString) => (x.msg, x.addr, ()), fun h => ((errorAddressString.mk (h.1) (h.2.1)) : errorAddressString), fun _ => rfl, by decide⟩
  | 40 => ⟨[.str, (.slice 4 .bool)], fun (x : Signer) => (x.Seed, x.Used, ()), fun h => ((Signer.mk (h.1) (h.2.1)) : Signer), fun _ => rfl, by decide⟩
  | 41 => ⟨[.str, (.slice 4 .bool)], fun (x : Signer) => (x.Seed, x.Used, ()), fun h => ((Signer.mk (h.1) (h.2.1)) : Signer), fun _ => rfl, by decide⟩
  | 43 => ⟨[(.int .i64), (.slice 9 .str), (.slice 9 .str)], fun (x : Signature) => (x.Index, x.Parts, x.Path, ()), fun h => ((Signature.mk (h.1) (h.2.1) (h.2.2.1)) : Signature), fun _ => rfl, by decide⟩
  | 44 => ⟨[(.int .i64), (.slice 9 .str), (.slice 9 .str)], fun (x : Signature) => (x.Index, x.Parts, x.Path, ()), fun h => ((Signature.mk (h.1) (h.2.1) (h.2.2.1)) : Signature), fun _ => rfl, by decide⟩
  | 48 => ⟨[(.int .i64), (.slice 9 .str), (.slice 9 .str)], fun (x : Signature) => (x.Index, x.Parts, x.Path, ()), fun h => ((Signature.mk (h.1) (h.2.1) (h.2.2.1)) : Signature), fun _ => rfl, by decide⟩
  | 58 => ⟨[.str, (.slice 4 .bool)], fun (x : Signer) => (x.Seed, x.Used, ()), fun h => ((Signer.mk (h.1) (h.2.1)) : Signer), fun _ => rfl, by decide⟩
  | 95 => ⟨[(.slice 5 (.int .u8)), (.int .i64), (.int .i64)], fun (x : l00Src) => (x.code, x.«at», x.seed, ()), fun h => ((l00Src.mk (h.1) (h.2.1) (h.2.2.1)) : l00Src), fun _ => rfl, by decide⟩
  | 96 => ⟨[(.rsl 5 (.int .u8)), (.int .i64), (.int .i64)], fun (x : l00Src) => (x.code, x.«at», x.seed, ()), fun h => ((l00Src.mk (h.1) (h.2.1) (h.2.2.1)) : l00Src), fun _ => rfl, by decide⟩
  | 114 => ⟨[(.slice 9 .str), .bool, (.slice 9 .str)], fun (x : prover) => (x.proof, x.bad, x.steps, ()), fun h => ((prover.mk (h.1) (h.2.1) (h.2.2.1)) : prover), fun _ => rfl, by decide⟩
  | 115 => ⟨[(.rsl 9 .str), .bool, (.slice 9 .str)], fun (x : prover) => (x.proof, x.bad, x.steps, ()), fun h => ((prover.mk (h.1) (h.2.1) (h.2.2.1)) : prover), fun _ => rfl, by decide⟩
  | n => ⟨[.st n], fun x => (x, ()), fun h => h.1, fun _ => rfl, Nat.one_pos⟩
def E : Env := { S := S, fl := fun n => (ld n).fl, opn := fun n => (ld n).opn, shut := fun n => (ld n).shut, opn_shut := fun n => (ld n).opn_shut, pos := fun n => (ld n).pos, dz := fun n => (sd n).dz }
noncomputable def T : Tb := tbOf Try.prog
theorem T_OK : T.OK Try.prog := tbOf_ok _
theorem mixed : Try.prog.follows .mixedOrders = true := by kernel_rfl
end Mir.Y
