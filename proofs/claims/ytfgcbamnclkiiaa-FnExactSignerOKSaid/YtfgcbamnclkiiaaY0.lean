/- Data of the program. -/
import Derived.Test.YtfgcbamnclkiiaaProg
import Derived.Test.YtfgcbamnclkiiaaMir27
namespace Mir.Y
set_option linter.unusedVariables false
open Go Go.Proofs Mir
structure boundsError where
  x : Int
  y : Int
  signed : Bool
  code : Int
def boundsError.dz : boundsError := ⟨(0:Int), (0:Int), false, (0:Int)⟩
structure errorAddressString where
  msg : ByteArray
  addr : Int
def errorAddressString.dz : errorAddressString := ⟨ByteArray.empty, (0:Int)⟩
structure Signer where
  Seed : ByteArray
  Used : List Bool
def Signer.dz : Signer := ⟨ByteArray.empty, []⟩
structure Entry where
  Term : Int
  Kind : Int
  Data : ByteArray
def Entry.dz : Entry := ⟨(0:Int), (0:Int), ByteArray.empty⟩
structure Node where
  Id : Int
  Term : Int
  Vote : Int
  Log : List Entry
  Start : List Int
  Role : Int
  Votes : List Int
  Next : List Int
  Match : List Int
  Commit : Int
  Elapsed : Int
  Wait : Int
  Up : Bool
def Node.dz : Node := ⟨(0:Int), (0:Int), (0:Int), [], [], (0:Int), [], [], [], (0:Int), (0:Int), (0:Int), false⟩
structure Command where
  Kind : Int
  Session : Int
  Seq : Int
  Key : ByteArray
  Value : ByteArray
def Command.dz : Command := ⟨(0:Int), (0:Int), (0:Int), ByteArray.empty, ByteArray.empty⟩
structure Reply where
  Kind : Int
  Place : Int
  Value : ByteArray
def Reply.dz : Reply := ⟨(0:Int), (0:Int), ByteArray.empty⟩
structure CallRecord where
  Client : Int
  Begin : Int
  End : Int
  Command : Command
  Answer : Reply
def CallRecord.dz : CallRecord := ⟨(0:Int), (0:Int), (0:Int), ⟨(0:Int), (0:Int), (0:Int), ByteArray.empty, ByteArray.empty⟩, ⟨(0:Int), (0:Int), ByteArray.empty⟩⟩
structure State where
  Term : Int
  Vote : Int
  Log : List Entry
def State.dz : State := ⟨(0:Int), (0:Int), []⟩
def sd : Nat → SD
  | 7 => ⟨boundsError, boundsError.dz⟩
  | 8 => ⟨boundsError, boundsError.dz⟩
  | 13 => ⟨errorAddressString, errorAddressString.dz⟩
  | 14 => ⟨errorAddressString, errorAddressString.dz⟩
  | 23 => ⟨Signer, Signer.dz⟩
  | 24 => ⟨Signer, Signer.dz⟩
  | 27 => ⟨Signer, Signer.dz⟩
  | 104 => ⟨Entry, Entry.dz⟩
  | 41 => ⟨Node, Node.dz⟩
  | 42 => ⟨Node, Node.dz⟩
  | 107 => ⟨Entry, Entry.dz⟩
  | 52 => ⟨Node, Node.dz⟩
  | 53 => ⟨Node, Node.dz⟩
  | 66 => ⟨Command, Command.dz⟩
  | 67 => ⟨Command, Command.dz⟩
  | 68 => ⟨Reply, Reply.dz⟩
  | 69 => ⟨Reply, Reply.dz⟩
  | 70 => ⟨CallRecord, CallRecord.dz⟩
  | 71 => ⟨CallRecord, CallRecord.dz⟩
  | 74 => ⟨Command, Command.dz⟩
  | 75 => ⟨Reply, Reply.dz⟩
  | 76 => ⟨CallRecord, CallRecord.dz⟩
  | 77 => ⟨CallRecord, CallRecord.dz⟩
  | 88 => ⟨State, State.dz⟩
  | 89 => ⟨State, State.dz⟩
  | 103 => ⟨Entry, Entry.dz⟩
  | _ => ⟨Bool, false⟩
@[reducible] def S (n : Nat) : Type := (sd n).S
def ld : (n : Nat) → LD S n
  | 7 => ⟨[(.int .i64), (.int .i64), .bool, (.int .u8)], fun (x : boundsError) => (x.x, x.y, x.signed, x.code, ()), fun h => ((boundsError.mk (h.1) (h.2.1) (h.2.2.1) (h.2.2.2.1)) : boundsError), fun _ => rfl, by decide⟩
  | 8 => ⟨[(.int .i64), (.int .i64), .bool, (.int .u8)], fun (x : boundsError) => (x.x, x.y, x.signed, x.code, ()), fun h => ((boundsError.mk (h.1) (h.2.1) (h.2.2.1) (h.2.2.2.1)) : boundsError), fun _ => rfl, by decide⟩
  | 13 => ⟨[.str, (.int .u64)], fun (x : errorAddressString) => (x.msg, x.addr, ()), fun h => ((errorAddressString.mk (h.1) (h.2.1)) : errorAddressString), fun _ => rfl, by decide⟩
  | 14 => ⟨[.str, (.int .u64)], fun (x : errorAddressString) => (x.msg, x.addr, ()), fun h => ((errorAddressString.mk (h.1) (h.2.1)) : errorAddressString), fun _ => rfl, by decide⟩
  | 23 => ⟨[.str, (.slice 4 .bool)], fun (x : Signer) => (x.Seed, x.Used, ()), fun h => ((Signer.mk (h.1) (h.2.1)) : Signer), fun _ => rfl, by decide⟩
  | 24 => ⟨[.str, (.slice 4 .bool)], fun (x : Signer) => (x.Seed, x.Used, ()), fun h => ((Signer.mk (h.1) (h.2.1)) : Signer), fun _ => rfl, by decide⟩
  | 27 => ⟨[.str, (.slice 4 .bool)], fun (x : Signer) => (x.Seed, x.Used, ()), fun h => ((Signer.mk (h.1) (h.2.1)) : Signer), fun _ => rfl, by decide⟩
  | 104 => ⟨[(.int .i64), (.int .i64), .str], fun (x : Entry) => (x.Term, x.Kind, x.Data, ()), fun h => ((Entry.mk (h.1) (h.2.1) (h.2.2.1)) : Entry), fun _ => rfl, by decide⟩
  | 41 => ⟨[(.int .i64), (.int .i64), (.int .i64), (.slice 104 (.st 104)), (.slice 3 (.int .i64)), (.int .i64), (.slice 3 (.int .i64)), (.slice 3 (.int .i64)), (.slice 3 (.int .i64)), (.int .i64), (.int .i64), (.int .i64), .bool], fun (x : Node) => (x.Id, x.Term, x.Vote, x.Log, x.Start, x.Role, x.Votes, x.Next, x.Match, x.Commit, x.Elapsed, x.Wait, x.Up, ()), fun h => ((Node.mk (h.1) (h.2.1) (h.2.2.1) (h.2.2.2.1) (h.2.2.2.2.1) (h.2.2.2.2.2.1) (h.2.2.2.2.2.2.1) (h.2.2.2.2.2.2.2.1) (h.2.2.2.2.2.2.2.2.1) (h.2.2.2.2.2.2.2.2.2.1) (h.2.2.2.2.2.2.2.2.2.2.1) (h.2.2.2.2.2.2.2.2.2.2.2.1) (h.2.2.2.2.2.2.2.2.2.2.2.2.1)) : Node), fun _ => rfl, by decide⟩
  | 42 => ⟨[(.int .i64), (.int .i64), (.int .i64), (.slice 104 (.st 104)), (.slice 3 (.int .i64)), (.int .i64), (.slice 3 (.int .i64)), (.slice 3 (.int .i64)), (.slice 3 (.int .i64)), (.int .i64), (.int .i64), (.int .i64), .bool], fun (x : Node) => (x.Id, x.Term, x.Vote, x.Log, x.Start, x.Role, x.Votes, x.Next, x.Match, x.Commit, x.Elapsed, x.Wait, x.Up, ()), fun h => ((Node.mk (h.1) (h.2.1) (h.2.2.1) (h.2.2.2.1) (h.2.2.2.2.1) (h.2.2.2.2.2.1) (h.2.2.2.2.2.2.1) (h.2.2.2.2.2.2.2.1) (h.2.2.2.2.2.2.2.2.1) (h.2.2.2.2.2.2.2.2.2.1) (h.2.2.2.2.2.2.2.2.2.2.1) (h.2.2.2.2.2.2.2.2.2.2.2.1) (h.2.2.2.2.2.2.2.2.2.2.2.2.1)) : Node), fun _ => rfl, by decide⟩
  | 107 => ⟨[(.int .i64), (.int .i64), .str], fun (x : Entry) => (x.Term, x.Kind, x.Data, ()), fun h => ((Entry.mk (h.1) (h.2.1) (h.2.2.1)) : Entry), fun _ => rfl, by decide⟩
  | 52 => ⟨[(.int .i64), (.int .i64), (.int .i64), (.slice 107 (.st 107)), (.slice 3 (.int .i64)), (.int .i64), (.slice 3 (.int .i64)), (.slice 3 (.int .i64)), (.slice 3 (.int .i64)), (.int .i64), (.int .i64), (.int .i64), .bool], fun (x : Node) => (x.Id, x.Term, x.Vote, x.Log, x.Start, x.Role, x.Votes, x.Next, x.Match, x.Commit, x.Elapsed, x.Wait, x.Up, ()), fun h => ((Node.mk (h.1) (h.2.1) (h.2.2.1) (h.2.2.2.1) (h.2.2.2.2.1) (h.2.2.2.2.2.1) (h.2.2.2.2.2.2.1) (h.2.2.2.2.2.2.2.1) (h.2.2.2.2.2.2.2.2.1) (h.2.2.2.2.2.2.2.2.2.1) (h.2.2.2.2.2.2.2.2.2.2.1) (h.2.2.2.2.2.2.2.2.2.2.2.1) (h.2.2.2.2.2.2.2.2.2.2.2.2.1)) : Node), fun _ => rfl, by decide⟩
  | 53 => ⟨[(.int .i64), (.int .i64), (.int .i64), (.slice 107 (.st 107)), (.slice 3 (.int .i64)), (.int .i64), (.slice 3 (.int .i64)), (.slice 3 (.int .i64)), (.slice 3 (.int .i64)), (.int .i64), (.int .i64), (.int .i64), .bool], fun (x : Node) => (x.Id, x.Term, x.Vote, x.Log, x.Start, x.Role, x.Votes, x.Next, x.Match, x.Commit, x.Elapsed, x.Wait, x.Up, ()), fun h => ((Node.mk (h.1) (h.2.1) (h.2.2.1) (h.2.2.2.1) (h.2.2.2.2.1) (h.2.2.2.2.2.1) (h.2.2.2.2.2.2.1) (h.2.2.2.2.2.2.2.1) (h.2.2.2.2.2.2.2.2.1) (h.2.2.2.2.2.2.2.2.2.1) (h.2.2.2.2.2.2.2.2.2.2.1) (h.2.2.2.2.2.2.2.2.2.2.2.1) (h.2.2.2.2.2.2.2.2.2.2.2.2.1)) : Node), fun _ => rfl, by decide⟩
  | 66 => ⟨[(.int .i64), (.int .i64), (.int .i64), .str, .str], fun (x : Command) => (x.Kind, x.Session, x.Seq, x.Key, x.Value, ()), fun h => ((Command.mk (h.1) (h.2.1) (h.2.2.1) (h.2.2.2.1) (h.2.2.2.2.1)) : Command), fun _ => rfl, by decide⟩
  | 67 => ⟨[(.int .i64), (.int .i64), (.int .i64), .str, .str], fun (x : Command) => (x.Kind, x.Session, x.Seq, x.Key, x.Value, ()), fun h => ((Command.mk (h.1) (h.2.1) (h.2.2.1) (h.2.2.2.1) (h.2.2.2.2.1)) : Command), fun _ => rfl, by decide⟩
  | 68 => ⟨[(.int .i64), (.int .i64), .str], fun (x : Reply) => (x.Kind, x.Place, x.Value, ()), fun h => ((Reply.mk (h.1) (h.2.1) (h.2.2.1)) : Reply), fun _ => rfl, by decide⟩
  | 69 => ⟨[(.int .i64), (.int .i64), .str], fun (x : Reply) => (x.Kind, x.Place, x.Value, ()), fun h => ((Reply.mk (h.1) (h.2.1) (h.2.2.1)) : Reply), fun _ => rfl, by decide⟩
  | 70 => ⟨[(.int .i64), (.int .i64), (.int .i64), (.int .i64), (.int .i64), (.int .i64), .str, .str, (.int .i64), (.int .i64), .str], fun (x : CallRecord) => (x.Client, x.Begin, x.End, x.Command.Kind, x.Command.Session, x.Command.Seq, x.Command.Key, x.Command.Value, x.Answer.Kind, x.Answer.Place, x.Answer.Value, ()), fun h => ((CallRecord.mk (h.1) (h.2.1) (h.2.2.1) (Command.mk (h.2.2.2.1) (h.2.2.2.2.1) (h.2.2.2.2.2.1) (h.2.2.2.2.2.2.1) (h.2.2.2.2.2.2.2.1)) (Reply.mk (h.2.2.2.2.2.2.2.2.1) (h.2.2.2.2.2.2.2.2.2.1) (h.2.2.2.2.2.2.2.2.2.2.1))) : CallRecord), fun _ => rfl, by decide⟩
  | 71 => ⟨[(.int .i64), (.int .i64), (.int .i64), (.int .i64), (.int .i64), (.int .i64), .str, .str, (.int .i64), (.int .i64), .str], fun (x : CallRecord) => (x.Client, x.Begin, x.End, x.Command.Kind, x.Command.Session, x.Command.Seq, x.Command.Key, x.Command.Value, x.Answer.Kind, x.Answer.Place, x.Answer.Value, ()), fun h => ((CallRecord.mk (h.1) (h.2.1) (h.2.2.1) (Command.mk (h.2.2.2.1) (h.2.2.2.2.1) (h.2.2.2.2.2.1) (h.2.2.2.2.2.2.1) (h.2.2.2.2.2.2.2.1)) (Reply.mk (h.2.2.2.2.2.2.2.2.1) (h.2.2.2.2.2.2.2.2.2.1) (h.2.2.2.2.2.2.2.2.2.2.1))) : CallRecord), fun _ => rfl, by decide⟩
  | 74 => ⟨[(.int .i64), (.int .i64), (.int .i64), .str, .str], fun (x : Command) => (x.Kind, x.Session, x.Seq, x.Key, x.Value, ()), fun h => ((Command.mk (h.1) (h.2.1) (h.2.2.1) (h.2.2.2.1) (h.2.2.2.2.1)) : Command), fun _ => rfl, by decide⟩
  | 75 => ⟨[(.int .i64), (.int .i64), .str], fun (x : Reply) => (x.Kind, x.Place, x.Value, ()), fun h => ((Reply.mk (h.1) (h.2.1) (h.2.2.1)) : Reply), fun _ => rfl, by decide⟩
  | 76 => ⟨[(.int .i64), (.int .i64), (.int .i64), (.int .i64), (.int .i64), (.int .i64), .str, .str, (.int .i64), (.int .i64), .str], fun (x : CallRecord) => (x.Client, x.Begin, x.End, x.Command.Kind, x.Command.Session, x.Command.Seq, x.Command.Key, x.Command.Value, x.Answer.Kind, x.Answer.Place, x.Answer.Value, ()), fun h => ((CallRecord.mk (h.1) (h.2.1) (h.2.2.1) (Command.mk (h.2.2.2.1) (h.2.2.2.2.1) (h.2.2.2.2.2.1) (h.2.2.2.2.2.2.1) (h.2.2.2.2.2.2.2.1)) (Reply.mk (h.2.2.2.2.2.2.2.2.1) (h.2.2.2.2.2.2.2.2.2.1) (h.2.2.2.2.2.2.2.2.2.2.1))) : CallRecord), fun _ => rfl, by decide⟩
  | 77 => ⟨[(.int .i64), (.int .i64), (.int .i64), (.int .i64), (.int .i64), (.int .i64), .str, .str, (.int .i64), (.int .i64), .str], fun (x : CallRecord) => (x.Client, x.Begin, x.End, x.Command.Kind, x.Command.Session, x.Command.Seq, x.Command.Key, x.Command.Value, x.Answer.Kind, x.Answer.Place, x.Answer.Value, ()), fun h => ((CallRecord.mk (h.1) (h.2.1) (h.2.2.1) (Command.mk (h.2.2.2.1) (h.2.2.2.2.1) (h.2.2.2.2.2.1) (h.2.2.2.2.2.2.1) (h.2.2.2.2.2.2.2.1)) (Reply.mk (h.2.2.2.2.2.2.2.2.1) (h.2.2.2.2.2.2.2.2.2.1) (h.2.2.2.2.2.2.2.2.2.2.1))) : CallRecord), fun _ => rfl, by decide⟩
  | 88 => ⟨[(.int .i64), (.int .i64), (.slice 104 (.st 104))], fun (x : State) => (x.Term, x.Vote, x.Log, ()), fun h => ((State.mk (h.1) (h.2.1) (h.2.2.1)) : State), fun _ => rfl, by decide⟩
  | 89 => ⟨[(.int .i64), (.int .i64), (.slice 104 (.st 104))], fun (x : State) => (x.Term, x.Vote, x.Log, ()), fun h => ((State.mk (h.1) (h.2.1) (h.2.2.1)) : State), fun _ => rfl, by decide⟩
  | 103 => ⟨[(.int .i64), (.int .i64), .str], fun (x : Entry) => (x.Term, x.Kind, x.Data, ()), fun h => ((Entry.mk (h.1) (h.2.1) (h.2.2.1)) : Entry), fun _ => rfl, by decide⟩
  | n => ⟨[.st n], fun x => (x, ()), fun h => h.1, fun _ => rfl, Nat.one_pos⟩
def E : Env := { S := S, fl := fun n => (ld n).fl, opn := fun n => (ld n).opn, shut := fun n => (ld n).shut, opn_shut := fun n => (ld n).opn_shut, pos := fun n => (ld n).pos, dz := fun n => (sd n).dz }
noncomputable def T : Tb := tbOf Try.prog
theorem T_OK : T.OK Try.prog := tbOf_ok _
theorem mixed : Try.prog.follows .mixedOrders = true := by kernel_rfl
end Mir.Y
