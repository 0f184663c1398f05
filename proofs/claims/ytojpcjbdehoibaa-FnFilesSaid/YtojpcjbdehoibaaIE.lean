/- Data of the program. -/
import Derived.Test.YtojpcjbdehoibaaProg
import Derived.Test.YtojpcjbdehoibaaEngC
namespace Mir.Y
set_option linter.unusedVariables false
open Go Go.Proofs Mir
structure boundsError where
  x : Int
  y : Int
  signed : Bool
  code : Int
def boundsError.dz : boundsError := ⟨(0:Int), (0:Int), false, (0:Int)⟩
structure errorAddressString where
  msg : ByteArray
  addr : Int
def errorAddressString.dz : errorAddressString := ⟨ByteArray.empty, (0:Int)⟩
structure File where
  Name : ByteArray
  Data : ByteArray
  Sure : Int
def File.dz : File := ⟨ByteArray.empty, ByteArray.empty, (0:Int)⟩
structure Disk where
  Room : Int
  Files : List File
def Disk.dz : Disk := ⟨(0:Int), []⟩
structure FileAct where
  Kind : Int
  N : Int
  Name : ByteArray
  To : ByteArray
  Data : ByteArray
  Keep : List Int
def FileAct.dz : FileAct := ⟨(0:Int), (0:Int), ByteArray.empty, ByteArray.empty, ByteArray.empty, []⟩
inductive Branch where
  | mk (Key : ByteArray) (Value : ByteArray) (At : Int) (Kids : List Branch)
@[reducible] def Branch.Key : Branch → ByteArray
  | .mk a0 a1 a2 a3 => a0
@[reducible] def Branch.Value : Branch → ByteArray
  | .mk a0 a1 a2 a3 => a1
@[reducible] def Branch.At : Branch → Int
  | .mk a0 a1 a2 a3 => a2
@[reducible] def Branch.Kids : Branch → List Branch
  | .mk a0 a1 a2 a3 => a3
def Branch.dz : Branch := ⟨ByteArray.empty, ByteArray.empty, (0:Int), []⟩
structure MapStep where
  At : Int
  Hash : ByteArray
def MapStep.dz : MapStep := ⟨(0:Int), ByteArray.empty⟩
structure MapProof where
  Found : Bool
  Key : ByteArray
  Value : ByteArray
  Steps : List MapStep
def MapProof.dz : MapProof := ⟨false, ByteArray.empty, ByteArray.empty, []⟩
structure Command where
  Kind : Int
  Session : Int
  Seq : Int
  Key : ByteArray
  Value : ByteArray
def Command.dz : Command := ⟨(0:Int), (0:Int), (0:Int), ByteArray.empty, ByteArray.empty⟩
structure Reply where
  Kind : Int
  Place : Int
  Value : ByteArray
def Reply.dz : Reply := ⟨(0:Int), (0:Int), ByteArray.empty⟩
structure Session where
  Id : Int
  Seq : Int
  Last : Reply
def Session.dz : Session := ⟨(0:Int), (0:Int), ⟨(0:Int), (0:Int), ByteArray.empty⟩⟩
structure Ledger where
  Leaves : List ByteArray
  Map : Branch
  Sessions : List Session
def Ledger.dz : Ledger := ⟨[], ⟨ByteArray.empty, ByteArray.empty, (0:Int), []⟩, []⟩
structure pairOf where
  key : ByteArray
  value : ByteArray
  hash : ByteArray
def pairOf.dz : pairOf := ⟨ByteArray.empty, ByteArray.empty, ByteArray.empty⟩
structure l00Src where
  code : List Int
  «at» : Int
  seed : Int
def l00Src.dz : l00Src := ⟨[], (0:Int), (0:Int)⟩
structure books where
  leaves : List ByteArray
  pairs : List pairOf
  sessions : List Session
def books.dz : books := ⟨[], [], []⟩
def sd : Nat → SD
  | 7 => ⟨boundsError, boundsError.dz⟩
  | 8 => ⟨boundsError, boundsError.dz⟩
  | 13 => ⟨errorAddressString, errorAddressString.dz⟩
  | 14 => ⟨errorAddressString, errorAddressString.dz⟩
  | 42 => ⟨File, File.dz⟩
  | 26 => ⟨Disk, Disk.dz⟩
  | 27 => ⟨Disk, Disk.dz⟩
  | 39 => ⟨FileAct, FileAct.dz⟩
  | 40 => ⟨FileAct, FileAct.dz⟩
  | 41 => ⟨File, File.dz⟩
  | 192 => ⟨File, File.dz⟩
  | 47 => ⟨Disk, Disk.dz⟩
  | 48 => ⟨Disk, Disk.dz⟩
  | 49 => ⟨FileAct, FileAct.dz⟩
  | 67 => ⟨Branch, Branch.dz⟩
  | 66 => ⟨Branch, Branch.dz⟩
  | 71 => ⟨Branch, Branch.dz⟩
  | 70 => ⟨Branch, Branch.dz⟩
  | 156 => ⟨MapStep, MapStep.dz⟩
  | 81 => ⟨MapProof, MapProof.dz⟩
  | 82 => ⟨MapProof, MapProof.dz⟩
  | 96 => ⟨Command, Command.dz⟩
  | 97 => ⟨Command, Command.dz⟩
  | 220 => ⟨Reply, Reply.dz⟩
  | 222 => ⟨Session, Session.dz⟩
  | 100 => ⟨Ledger, Ledger.dz⟩
  | 101 => ⟨Ledger, Ledger.dz⟩
  | 172 => ⟨Reply, Reply.dz⟩
  | 174 => ⟨Session, Session.dz⟩
  | 105 => ⟨Ledger, Ledger.dz⟩
  | 106 => ⟨Ledger, Ledger.dz⟩
  | 145 => ⟨pairOf, pairOf.dz⟩
  | 146 => ⟨pairOf, pairOf.dz⟩
  | 155 => ⟨MapStep, MapStep.dz⟩
  | 171 => ⟨Reply, Reply.dz⟩
  | 173 => ⟨Session, Session.dz⟩
  | 178 => ⟨l00Src, l00Src.dz⟩
  | 179 => ⟨l00Src, l00Src.dz⟩
  | 221 => ⟨Session, Session.dz⟩
  | 229 => ⟨books, books.dz⟩
  | 230 => ⟨books, books.dz⟩
  | _ => ⟨Bool, false⟩
@[reducible] def S (n : Nat) : Type := (sd n).S
def ld : (n : Nat) → LD S n
  | 7 => ⟨[(.int .i64), (.int .i64), .bool, (.int .u8)], fun (x : boundsError) => (x.x, x.y, x.signed, x.code, ()), fun h => ((boundsError.mk (h.1) (h.2.1) (h.2.2.1) (h.2.2.2.1)) : boundsError), fun _ => rfl, by decide⟩
  | 8 => ⟨[(.int .i64), (.int .i64), .bool, (.int .u8)], fun (x : boundsError) => (x.x, x.y, x.signed, x.code, ()), fun h => ((boundsError.mk (h.1) (h.2.1) (h.2.2.1) (h.2.2.2.1)) : boundsError), fun _ => rfl, by decide⟩
  | 13 => ⟨[.str, (.int .u64)], fun (x : errorAddressString) => (x.msg, x.addr, ()), fun h => ((errorAddressString.mk (h.1) (h.2.1)) : errorAddressString), fun _ => rfl, by decide⟩
  | 14 => ⟨[.str, (.int .u64)], fun (x : errorAddressString) => (x.msg, x.addr, ()), fun h => ((errorAddressString.mk (h.1) (h.2.1)) : errorAddressString), fun _ => rfl, by decide⟩
  | 42 => ⟨[.str, .str, (.int .i64)], fun (x : File) => (x.Name, x.Data, x.Sure, ()), fun h => ((File.mk (h.1) (h.2.1) (h.2.2.1)) : File), fun _ => rfl, by decide⟩
  | 26 => ⟨[(.int .i64), (.slice 42 (.st 42))], fun (x : Disk) => (x.Room, x.Files, ()), fun h => ((Disk.mk (h.1) (h.2.1)) : Disk), fun _ => rfl, by decide⟩
  | 27 => ⟨[(.int .i64), (.slice 42 (.st 42))], fun (x : Disk) => (x.Room, x.Files, ()), fun h => ((Disk.mk (h.1) (h.2.1)) : Disk), fun _ => rfl, by decide⟩
  | 39 => ⟨[(.int .i64), (.int .i64), .str, .str, .str, (.slice 3 (.int .i64))], fun (x : FileAct) => (x.Kind, x.N, x.Name, x.To, x.Data, x.Keep, ()), fun h => ((FileAct.mk (h.1) (h.2.1) (h.2.2.1) (h.2.2.2.1) (h.2.2.2.2.1) (h.2.2.2.2.2.1)) : FileAct), fun _ => rfl, by decide⟩
  | 40 => ⟨[(.int .i64), (.int .i64), .str, .str, .str, (.slice 3 (.int .i64))], fun (x : FileAct) => (x.Kind, x.N, x.Name, x.To, x.Data, x.Keep, ()), fun h => ((FileAct.mk (h.1) (h.2.1) (h.2.2.1) (h.2.2.2.1) (h.2.2.2.2.1) (h.2.2.2.2.2.1)) : FileAct), fun _ => rfl, by decide⟩
  | 41 => ⟨[.str, .str, (.int .i64)], fun (x : File) => (x.Name, x.Data, x.Sure, ()), fun h => ((File.mk (h.1) (h.2.1) (h.2.2.1)) : File), fun _ => rfl, by decide⟩
  | 192 => ⟨[.str, .str, (.int .i64)], fun (x : File) => (x.Name, x.Data, x.Sure, ()), fun h => ((File.mk (h.1) (h.2.1) (h.2.2.1)) : File), fun _ => rfl, by decide⟩
  | 47 => ⟨[(.int .i64), (.slice 192 (.st 192))], fun (x : Disk) => (x.Room, x.Files, ()), fun h => ((Disk.mk (h.1) (h.2.1)) : Disk), fun _ => rfl, by decide⟩
  | 48 => ⟨[(.int .i64), (.slice 192 (.st 192))], fun (x : Disk) => (x.Room, x.Files, ()), fun h => ((Disk.mk (h.1) (h.2.1)) : Disk), fun _ => rfl, by decide⟩
  | 49 => ⟨[(.int .i64), (.int .i64), .str, .str, .str, (.slice 3 (.int .i64))], fun (x : FileAct) => (x.Kind, x.N, x.Name, x.To, x.Data, x.Keep, ()), fun h => ((FileAct.mk (h.1) (h.2.1) (h.2.2.1) (h.2.2.2.1) (h.2.2.2.2.1) (h.2.2.2.2.2.1)) : FileAct), fun _ => rfl, by decide⟩
  | 67 => ⟨[.str, .str, (.int .i64), (.slice 67 (.st 67))], fun (x : Branch) => (x.Key, x.Value, x.At, x.Kids, ()), fun h => ((Branch.mk (h.1) (h.2.1) (h.2.2.1) (h.2.2.2.1)) : Branch), fun _ => rfl, by decide⟩
  | 66 => ⟨[.str, .str, (.int .i64), (.slice 67 (.st 67))], fun (x : Branch) => (x.Key, x.Value, x.At, x.Kids, ()), fun h => ((Branch.mk (h.1) (h.2.1) (h.2.2.1) (h.2.2.2.1)) : Branch), fun _ => rfl, by decide⟩
  | 71 => ⟨[.str, .str, (.int .i64), (.slice 71 (.st 71))], fun (x : Branch) => (x.Key, x.Value, x.At, x.Kids, ()), fun h => ((Branch.mk (h.1) (h.2.1) (h.2.2.1) (h.2.2.2.1)) : Branch), fun _ => rfl, by decide⟩
  | 70 => ⟨[.str, .str, (.int .i64), (.slice 71 (.st 71))], fun (x : Branch) => (x.Key, x.Value, x.At, x.Kids, ()), fun h => ((Branch.mk (h.1) (h.2.1) (h.2.2.1) (h.2.2.2.1)) : Branch), fun _ => rfl, by decide⟩
  | 156 => ⟨[(.int .i64), .str], fun (x : MapStep) => (x.At, x.Hash, ()), fun h => ((MapStep.mk (h.1) (h.2.1)) : MapStep), fun _ => rfl, by decide⟩
  | 81 => ⟨[.bool, .str, .str, (.slice 156 (.st 156))], fun (x : MapProof) => (x.Found, x.Key, x.Value, x.Steps, ()), fun h => ((MapProof.mk (h.1) (h.2.1) (h.2.2.1) (h.2.2.2.1)) : MapProof), fun _ => rfl, by decide⟩
  | 82 => ⟨[.bool, .str, .str, (.slice 156 (.st 156))], fun (x : MapProof) => (x.Found, x.Key, x.Value, x.Steps, ()), fun h => ((MapProof.mk (h.1) (h.2.1) (h.2.2.1) (h.2.2.2.1)) : MapProof), fun _ => rfl, by decide⟩
  | 96 => ⟨[(.int .i64), (.int .i64), (.int .i64), .str, .str], fun (x : Command) => (x.Kind, x.Session, x.Seq, x.Key, x.Value, ()), fun h => ((Command.mk (h.1) (h.2.1) (h.2.2.1) (h.2.2.2.1) (h.2.2.2.2.1)) : Command), fun _ => rfl, by decide⟩
  | 97 => ⟨[(.int .i64), (.int .i64), (.int .i64), .str, .str], fun (x : Command) => (x.Kind, x.Session, x.Seq, x.Key, x.Value, ()), fun h => ((Command.mk (h.1) (h.2.1) (h.2.2.1) (h.2.2.2.1) (h.2.2.2.2.1)) : Command), fun _ => rfl, by decide⟩
  | 220 => ⟨[(.int .i64), (.int .i64), .str], fun (x : Reply) => (x.Kind, x.Place, x.Value, ()), fun h => ((Reply.mk (h.1) (h.2.1) (h.2.2.1)) : Reply), fun _ => rfl, by decide⟩
  | 222 => ⟨[(.int .i64), (.int .i64), (.int .i64), (.int .i64), .str], fun (x : Session) => (x.Id, x.Seq, x.Last.Kind, x.Last.Place, x.Last.Value, ()), fun h => ((Session.mk (h.1) (h.2.1) (Reply.mk (h.2.2.1) (h.2.2.2.1) (h.2.2.2.2.1))) : Session), fun _ => rfl, by decide⟩
  | 100 => ⟨[(.slice 9 .str), .str, .str, (.int .i64), (.slice 67 (.st 67)), (.slice 222 (.st 222))], fun (x : Ledger) => (x.Leaves, x.Map.Key, x.Map.Value, x.Map.At, x.Map.Kids, x.Sessions, ()), fun h => ((Ledger.mk (h.1) (Branch.mk (h.2.1) (h.2.2.1) (h.2.2.2.1) (h.2.2.2.2.1)) (h.2.2.2.2.2.1)) : Ledger), fun _ => rfl, by decide⟩
  | 101 => ⟨[(.slice 9 .str), .str, .str, (.int .i64), (.slice 67 (.st 67)), (.slice 222 (.st 222))], fun (x : Ledger) => (x.Leaves, x.Map.Key, x.Map.Value, x.Map.At, x.Map.Kids, x.Sessions, ()), fun h => ((Ledger.mk (h.1) (Branch.mk (h.2.1) (h.2.2.1) (h.2.2.2.1) (h.2.2.2.2.1)) (h.2.2.2.2.2.1)) : Ledger), fun _ => rfl, by decide⟩
  | 172 => ⟨[(.int .i64), (.int .i64), .str], fun (x : Reply) => (x.Kind, x.Place, x.Value, ()), fun h => ((Reply.mk (h.1) (h.2.1) (h.2.2.1)) : Reply), fun _ => rfl, by decide⟩
  | 174 => ⟨[(.int .i64), (.int .i64), (.int .i64), (.int .i64), .str], fun (x : Session) => (x.Id, x.Seq, x.Last.Kind, x.Last.Place, x.Last.Value, ()), fun h => ((Session.mk (h.1) (h.2.1) (Reply.mk (h.2.2.1) (h.2.2.2.1) (h.2.2.2.2.1))) : Session), fun _ => rfl, by decide⟩
  | 105 => ⟨[(.slice 9 .str), .str, .str, (.int .i64), (.slice 71 (.st 71)), (.slice 174 (.st 174))], fun (x : Ledger) => (x.Leaves, x.Map.Key, x.Map.Value, x.Map.At, x.Map.Kids, x.Sessions, ()), fun h => ((Ledger.mk (h.1) (Branch.mk (h.2.1) (h.2.2.1) (h.2.2.2.1) (h.2.2.2.2.1)) (h.2.2.2.2.2.1)) : Ledger), fun _ => rfl, by decide⟩
  | 106 => ⟨[(.slice 9 .str), .str, .str, (.int .i64), (.slice 71 (.st 71)), (.slice 174 (.st 174))], fun (x : Ledger) => (x.Leaves, x.Map.Key, x.Map.Value, x.Map.At, x.Map.Kids, x.Sessions, ()), fun h => ((Ledger.mk (h.1) (Branch.mk (h.2.1) (h.2.2.1) (h.2.2.2.1) (h.2.2.2.2.1)) (h.2.2.2.2.2.1)) : Ledger), fun _ => rfl, by decide⟩
  | 145 => ⟨[.str, .str, .str], fun (x : pairOf) => (x.key, x.value, x.hash, ()), fun h => ((pairOf.mk (h.1) (h.2.1) (h.2.2.1)) : pairOf), fun _ => rfl, by decide⟩
  | 146 => ⟨[.str, .str, .str], fun (x : pairOf) => (x.key, x.value, x.hash, ()), fun h => ((pairOf.mk (h.1) (h.2.1) (h.2.2.1)) : pairOf), fun _ => rfl, by decide⟩
  | 155 => ⟨[(.int .i64), .str], fun (x : MapStep) => (x.At, x.Hash, ()), fun h => ((MapStep.mk (h.1) (h.2.1)) : MapStep), fun _ => rfl, by decide⟩
  | 171 => ⟨[(.int .i64), (.int .i64), .str], fun (x : Reply) => (x.Kind, x.Place, x.Value, ()), fun h => ((Reply.mk (h.1) (h.2.1) (h.2.2.1)) : Reply), fun _ => rfl, by decide⟩
  | 173 => ⟨[(.int .i64), (.int .i64), (.int .i64), (.int .i64), .str], fun (x : Session) => (x.Id, x.Seq, x.Last.Kind, x.Last.Place, x.Last.Value, ()), fun h => ((Session.mk (h.1) (h.2.1) (Reply.mk (h.2.2.1) (h.2.2.2.1) (h.2.2.2.2.1))) : Session), fun _ => rfl, by decide⟩
  | 178 => ⟨[(.slice 5 (.int .u8)), (.int .i64), (.int .i64)], fun (x : l00Src) => (x.code, x.«at», x.seed, ()), fun h => ((l00Src.mk (h.1) (h.2.1) (h.2.2.1)) : l00Src), fun _ => rfl, by decide⟩
  | 179 => ⟨[(.rsl 5 (.int .u8)), (.int .i64), (.int .i64)], fun (x : l00Src) => (x.code, x.«at», x.seed, ()), fun h => ((l00Src.mk (h.1) (h.2.1) (h.2.2.1)) : l00Src), fun _ => rfl, by decide⟩
  | 221 => ⟨[(.int .i64), (.int .i64), (.int .i64), (.int .i64), .str], fun (x : Session) => (x.Id, x.Seq, x.Last.Kind, x.Last.Place, x.Last.Value, ()), fun h => ((Session.mk (h.1) (h.2.1) (Reply.mk (h.2.2.1) (h.2.2.2.1) (h.2.2.2.2.1))) : Session), fun _ => rfl, by decide⟩
  | 229 => ⟨[(.slice 9 .str), (.slice 146 (.st 146)), (.slice 174 (.st 174))], fun (x : books) => (x.leaves, x.pairs, x.sessions, ()), fun h => ((books.mk (h.1) (h.2.1) (h.2.2.1)) : books), fun _ => rfl, by decide⟩
  | 230 => ⟨[(.slice 9 .str), (.slice 146 (.st 146)), (.slice 174 (.st 174))], fun (x : books) => (x.leaves, x.pairs, x.sessions, ()), fun h => ((books.mk (h.1) (h.2.1) (h.2.2.1)) : books), fun _ => rfl, by decide⟩
  | n => ⟨[.st n], fun x => (x, ()), fun h => h.1, fun _ => rfl, Nat.one_pos⟩
def E : Env := { S := S, fl := fun n => (ld n).fl, opn := fun n => (ld n).opn, shut := fun n => (ld n).shut, opn_shut := fun n => (ld n).opn_shut, pos := fun n => (ld n).pos, dz := fun n => (sd n).dz }
noncomputable def T : Tb := tbOf Try.prog
theorem T_OK : T.OK Try.prog := tbOf_ok _
theorem mixed : Try.prog.follows .mixedOrders = true := by kernel_rfl
end Mir.Y
