/- Data of the program. -/
import Derived.Test.YtojpcjbdehoibaaGreatProg
import Derived.Test.YtojpcjbdehoibaaGreatEngC
namespace Mir.Y
set_option linter.unusedVariables false
open Go Go.Proofs Mir
structure boundsError where
  x : Int
  y : Int
  signed : Bool
  code : Int
def boundsError.dz : boundsError := ⟨(0:Int), (0:Int), false, (0:Int)⟩
structure errorAddressString where
  msg : ByteArray
  addr : Int
def errorAddressString.dz : errorAddressString := ⟨ByteArray.empty, (0:Int)⟩
inductive Branch where
  | mk (Key : ByteArray) (Value : ByteArray) (At : Int) (Kids : List Branch)
@[reducible] def Branch.Key : Branch → ByteArray
  | .mk a0 a1 a2 a3 => a0
@[reducible] def Branch.Value : Branch → ByteArray
  | .mk a0 a1 a2 a3 => a1
@[reducible] def Branch.At : Branch → Int
  | .mk a0 a1 a2 a3 => a2
@[reducible] def Branch.Kids : Branch → List Branch
  | .mk a0 a1 a2 a3 => a3
def Branch.dz : Branch := ⟨ByteArray.empty, ByteArray.empty, (0:Int), []⟩
structure MapStep where
  At : Int
  Hash : ByteArray
def MapStep.dz : MapStep := ⟨(0:Int), ByteArray.empty⟩
structure MapProof where
  Found : Bool
  Key : ByteArray
  Value : ByteArray
  Steps : List MapStep
def MapProof.dz : MapProof := ⟨false, ByteArray.empty, ByteArray.empty, []⟩
structure pairOf where
  key : ByteArray
  value : ByteArray
  hash : ByteArray
def pairOf.dz : pairOf := ⟨ByteArray.empty, ByteArray.empty, ByteArray.empty⟩
structure l00Src where
  code : List Int
  «at» : Int
  seed : Int
def l00Src.dz : l00Src := ⟨[], (0:Int), (0:Int)⟩
def sd : Nat → SD
  | 7 => ⟨boundsError, boundsError.dz⟩
  | 8 => ⟨boundsError, boundsError.dz⟩
  | 13 => ⟨errorAddressString, errorAddressString.dz⟩
  | 14 => ⟨errorAddressString, errorAddressString.dz⟩
  | 25 => ⟨Branch, Branch.dz⟩
  | 24 => ⟨Branch, Branch.dz⟩
  | 52 => ⟨MapStep, MapStep.dz⟩
  | 31 => ⟨MapProof, MapProof.dz⟩
  | 32 => ⟨MapProof, MapProof.dz⟩
  | 51 => ⟨MapStep, MapStep.dz⟩
  | 57 => ⟨pairOf, pairOf.dz⟩
  | 58 => ⟨pairOf, pairOf.dz⟩
  | 64 => ⟨l00Src, l00Src.dz⟩
  | 65 => ⟨l00Src, l00Src.dz⟩
  | 3 => ⟨Int, (0:Int)⟩
  | _ => ⟨Bool, false⟩
@[reducible] def S (n : Nat) : Type := (sd n).S
def ld : (n : Nat) → LD S n
  | 7 => ⟨[(.int .i64), (.int .i64), .bool, (.int .u8)], fun (x : boundsError) => (x.x, x.y, x.signed, x.code, ()), fun h => ((boundsError.mk (h.1) (h.2.1) (h.2.2.1) (h.2.2.2.1)) : boundsError), fun _ => rfl, by decide⟩
  | 8 => ⟨[(.int .i64), (.int .i64), .bool, (.int .u8)], fun (x : boundsError) => (x.x, x.y, x.signed, x.code, ()), fun h => ((boundsError.mk (h.1) (h.2.1) (h.2.2.1) (h.2.2.2.1)) : boundsError), fun _ => rfl, by decide⟩
  | 13 => ⟨[.str, (.int .u64)], fun (x : errorAddressString) => (x.msg, x.addr, ()), fun h => ((errorAddressString.mk (h.1) (h.2.1)) : errorAddressString), fun _ => rfl, by decide⟩
  | 14 => ⟨[.str, (.int .u64)], fun (x : errorAddressString) => (x.msg, x.addr, ()), fun h => ((errorAddressString.mk (h.1) (h.2.1)) : errorAddressString), fun _ => rfl, by decide⟩
  | 25 => ⟨[.str, .str, (.int .i64), (.slice 25 (.st 25))], fun (x : Branch) => (x.Key, x.Value, x.At, x.Kids, ()), fun h => ((Branch.mk (h.1) (h.2.1) (h.2.2.1) (h.2.2.2.1)) : Branch), fun _ => rfl, by decide⟩
  | 24 => ⟨[.str, .str, (.int .i64), (.slice 25 (.st 25))], fun (x : Branch) => (x.Key, x.Value, x.At, x.Kids, ()), fun h => ((Branch.mk (h.1) (h.2.1) (h.2.2.1) (h.2.2.2.1)) : Branch), fun _ => rfl, by decide⟩
  | 52 => ⟨[(.int .i64), .str], fun (x : MapStep) => (x.At, x.Hash, ()), fun h => ((MapStep.mk (h.1) (h.2.1)) : MapStep), fun _ => rfl, by decide⟩
  | 31 => ⟨[.bool, .str, .str, (.slice 52 (.st 52))], fun (x : MapProof) => (x.Found, x.Key, x.Value, x.Steps, ()), fun h => ((MapProof.mk (h.1) (h.2.1) (h.2.2.1) (h.2.2.2.1)) : MapProof), fun _ => rfl, by decide⟩
  | 32 => ⟨[.bool, .str, .str, (.slice 52 (.st 52))], fun (x : MapProof) => (x.Found, x.Key, x.Value, x.Steps, ()), fun h => ((MapProof.mk (h.1) (h.2.1) (h.2.2.1) (h.2.2.2.1)) : MapProof), fun _ => rfl, by decide⟩
  | 51 => ⟨[(.int .i64), .str], fun (x : MapStep) => (x.At, x.Hash, ()), fun h => ((MapStep.mk (h.1) (h.2.1)) : MapStep), fun _ => rfl, by decide⟩
  | 57 => ⟨[.str, .str, .str], fun (x : pairOf) => (x.key, x.value, x.hash, ()), fun h => ((pairOf.mk (h.1) (h.2.1) (h.2.2.1)) : pairOf), fun _ => rfl, by decide⟩
  | 58 => ⟨[.str, .str, .str], fun (x : pairOf) => (x.key, x.value, x.hash, ()), fun h => ((pairOf.mk (h.1) (h.2.1) (h.2.2.1)) : pairOf), fun _ => rfl, by decide⟩
  | 64 => ⟨[(.slice 5 (.int .u8)), (.int .i64), (.int .i64)], fun (x : l00Src) => (x.code, x.«at», x.seed, ()), fun h => ((l00Src.mk (h.1) (h.2.1) (h.2.2.1)) : l00Src), fun _ => rfl, by decide⟩
  | 65 => ⟨[(.rsl 5 (.int .u8)), (.int .i64), (.int .i64)], fun (x : l00Src) => (x.code, x.«at», x.seed, ()), fun h => ((l00Src.mk (h.1) (h.2.1) (h.2.2.1)) : l00Src), fun _ => rfl, by decide⟩
  | 3 => ⟨[(.int .i64)], fun x => (x, ()), fun h => h.1, fun _ => rfl, by decide⟩
  | n => ⟨[.st n], fun x => (x, ()), fun h => h.1, fun _ => rfl, Nat.one_pos⟩
def E : Env := { S := S, fl := fun n => (ld n).fl, opn := fun n => (ld n).opn, shut := fun n => (ld n).shut, opn_shut := fun n => (ld n).opn_shut, pos := fun n => (ld n).pos, dz := fun n => (sd n).dz }
noncomputable def T : Tb := tbOf Tryz.prog
theorem T_OK : T.OK Tryz.prog := tbOf_ok _
noncomputable def TD : Tb := tbOfD Tryz.prog
theorem TD_OK : TD.OK Tryz.prog := tbOfD_ok _
theorem mixed : Tryz.prog.follows .mixedOrders = true := by kernel_rfl
end Mir.Y
