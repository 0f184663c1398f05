/- Data of the program. -/
import Derived.Test.YtbepkbaemapkjaaGreatProg
import Derived.Test.YtbepkbaemapkjaaGreatMir27
namespace Mir.Y
set_option linter.unusedVariables false
open Go Go.Proofs Mir
structure boundsError where
  x : Int
  y : Int
  signed : Bool
  code : Int
def boundsError.dz : boundsError := ⟨(0:Int), (0:Int), false, (0:Int)⟩
structure errorAddressString where
  msg : ByteArray
  addr : Int
def errorAddressString.dz : errorAddressString := ⟨ByteArray.empty, (0:Int)⟩
inductive Branch where
  | mk (Key : ByteArray) (Value : ByteArray) (At : Int) (Kids : List Branch)
@[reducible] def Branch.Key : Branch → ByteArray
  | .mk a0 a1 a2 a3 => a0
@[reducible] def Branch.Value : Branch → ByteArray
  | .mk a0 a1 a2 a3 => a1
@[reducible] def Branch.At : Branch → Int
  | .mk a0 a1 a2 a3 => a2
@[reducible] def Branch.Kids : Branch → List Branch
  | .mk a0 a1 a2 a3 => a3
def Branch.dz : Branch := ⟨ByteArray.empty, ByteArray.empty, (0:Int), []⟩
structure Reply where
  Kind : Int
  Place : Int
  Value : ByteArray
def Reply.dz : Reply := ⟨(0:Int), (0:Int), ByteArray.empty⟩
structure Session where
  Id : Int
  Seq : Int
  Last : Reply
def Session.dz : Session := ⟨(0:Int), (0:Int), ⟨(0:Int), (0:Int), ByteArray.empty⟩⟩
structure Ledger where
  Leaves : List ByteArray
  Map : Branch
  Sessions : List Session
def Ledger.dz : Ledger := ⟨[], ⟨ByteArray.empty, ByteArray.empty, (0:Int), []⟩, []⟩
structure Command where
  Kind : Int
  Session : Int
  Seq : Int
  Key : ByteArray
  Value : ByteArray
def Command.dz : Command := ⟨(0:Int), (0:Int), (0:Int), ByteArray.empty, ByteArray.empty⟩
structure Entry where
  Term : Int
  Kind : Int
  Data : ByteArray
def Entry.dz : Entry := ⟨(0:Int), (0:Int), ByteArray.empty⟩
structure Node where
  Id : Int
  Term : Int
  Vote : Int
  Log : List Entry
  Start : List Int
  Role : Int
  Votes : List Int
  Next : List Int
  Match : List Int
  Commit : Int
  Elapsed : Int
  Wait : Int
  Up : Bool
def Node.dz : Node := ⟨(0:Int), (0:Int), (0:Int), [], [], (0:Int), [], [], [], (0:Int), (0:Int), (0:Int), false⟩
structure Message where
  Kind : Int
  From : Int
  To : Int
  Term : Int
  Index : Int
  LogTerm : Int
  Commit : Int
  Entries : List Entry
  Ok : Bool
def Message.dz : Message := ⟨(0:Int), (0:Int), (0:Int), (0:Int), (0:Int), (0:Int), (0:Int), [], false⟩
structure Lead where
  Term : Int
  Id : Int
  Log : List Entry
def Lead.dz : Lead := ⟨(0:Int), (0:Int), []⟩
structure Done where
  Node : Int
  Term : Int
  Index : Int
  Entry : Entry
def Done.dz : Done := ⟨(0:Int), (0:Int), (0:Int), ⟨(0:Int), (0:Int), ByteArray.empty⟩⟩
structure Group where
  Nodes : List Node
  Wire : List Message
  Leads : List Lead
  Dones : List Done
def Group.dz : Group := ⟨[], [], [], []⟩
structure GroupAct where
  Kind : Int
  N : Int
  Draw : Int
  Data : ByteArray
def GroupAct.dz : GroupAct := ⟨(0:Int), (0:Int), (0:Int), ByteArray.empty⟩
structure pairOf where
  key : ByteArray
  value : ByteArray
  hash : ByteArray
def pairOf.dz : pairOf := ⟨ByteArray.empty, ByteArray.empty, ByteArray.empty⟩
structure books where
  leaves : List ByteArray
  pairs : List pairOf
  sessions : List Session
def books.dz : books := ⟨[], [], []⟩
structure l00Src where
  code : List Int
  «at» : Int
  seed : Int
def l00Src.dz : l00Src := ⟨[], (0:Int), (0:Int)⟩
structure reader where
  s : ByteArray
  bad : Bool
def reader.dz : reader := ⟨ByteArray.empty, false⟩
structure State where
  Term : Int
  Vote : Int
  Log : List Entry
def State.dz : State := ⟨(0:Int), (0:Int), []⟩
structure worker where
  Node : Node
  sent : List Message
def worker.dz : worker := ⟨⟨(0:Int), (0:Int), (0:Int), [], [], (0:Int), [], [], [], (0:Int), (0:Int), (0:Int), false⟩, []⟩
def sd : Nat → SD
  | 7 => ⟨boundsError, boundsError.dz⟩
  | 8 => ⟨boundsError, boundsError.dz⟩
  | 13 => ⟨errorAddressString, errorAddressString.dz⟩
  | 14 => ⟨errorAddressString, errorAddressString.dz⟩
  | 27 => ⟨Branch, Branch.dz⟩
  | 26 => ⟨Branch, Branch.dz⟩
  | 54 => ⟨Reply, Reply.dz⟩
  | 131 => ⟨Session, Session.dz⟩
  | 29 => ⟨Ledger, Ledger.dz⟩
  | 30 => ⟨Ledger, Ledger.dz⟩
  | 45 => ⟨Branch, Branch.dz⟩
  | 44 => ⟨Branch, Branch.dz⟩
  | 162 => ⟨Reply, Reply.dz⟩
  | 164 => ⟨Session, Session.dz⟩
  | 47 => ⟨Ledger, Ledger.dz⟩
  | 48 => ⟨Ledger, Ledger.dz⟩
  | 49 => ⟨Command, Command.dz⟩
  | 50 => ⟨Command, Command.dz⟩
  | 53 => ⟨Reply, Reply.dz⟩
  | 58 => ⟨Command, Command.dz⟩
  | 97 => ⟨Entry, Entry.dz⟩
  | 95 => ⟨Node, Node.dz⟩
  | 207 => ⟨Message, Message.dz⟩
  | 200 => ⟨Lead, Lead.dz⟩
  | 203 => ⟨Done, Done.dz⟩
  | 85 => ⟨Group, Group.dz⟩
  | 86 => ⟨Group, Group.dz⟩
  | 94 => ⟨Node, Node.dz⟩
  | 96 => ⟨Entry, Entry.dz⟩
  | 130 => ⟨Session, Session.dz⟩
  | 140 => ⟨GroupAct, GroupAct.dz⟩
  | 141 => ⟨GroupAct, GroupAct.dz⟩
  | 180 => ⟨pairOf, pairOf.dz⟩
  | 155 => ⟨books, books.dz⟩
  | 156 => ⟨books, books.dz⟩
  | 163 => ⟨Session, Session.dz⟩
  | 179 => ⟨pairOf, pairOf.dz⟩
  | 182 => ⟨l00Src, l00Src.dz⟩
  | 183 => ⟨l00Src, l00Src.dz⟩
  | 189 => ⟨reader, reader.dz⟩
  | 190 => ⟨reader, reader.dz⟩
  | 199 => ⟨Lead, Lead.dz⟩
  | 202 => ⟨Done, Done.dz⟩
  | 206 => ⟨Message, Message.dz⟩
  | 254 => ⟨State, State.dz⟩
  | 255 => ⟨State, State.dz⟩
  | 311 => ⟨worker, worker.dz⟩
  | 312 => ⟨worker, worker.dz⟩
  | 3 => ⟨Int, (0:Int)⟩
  | _ => ⟨Bool, false⟩
@[reducible] def S (n : Nat) : Type := (sd n).S
def ld : (n : Nat) → LD S n
  | 7 => ⟨[(.int .i64), (.int .i64), .bool, (.int .u8)], fun (x : boundsError) => (x.x, x.y, x.signed, x.code, ()), fun h => ((boundsError.mk (h.1) (h.2.1) (h.2.2.1) (h.2.2.2.1)) : boundsError), fun _ => rfl, by decide⟩
  | 8 => ⟨[(.int .i64), (.int .i64), .bool, (.int .u8)], fun (x : boundsError) => (x.x, x.y, x.signed, x.code, ()), fun h => ((boundsError.mk (h.1) (h.2.1) (h.2.2.1) (h.2.2.2.1)) : boundsError), fun _ => rfl, by decide⟩
  | 13 => ⟨[.str, (.int .u64)], fun (x : errorAddressString) => (x.msg, x.addr, ()), fun h => ((errorAddressString.mk (h.1) (h.2.1)) : errorAddressString), fun _ => rfl, by decide⟩
  | 14 => ⟨[.str, (.int .u64)], fun (x : errorAddressString) => (x.msg, x.addr, ()), fun h => ((errorAddressString.mk (h.1) (h.2.1)) : errorAddressString), fun _ => rfl, by decide⟩
  | 27 => ⟨[.str, .str, (.int .i64), (.slice 27 (.st 27))], fun (x : Branch) => (x.Key, x.Value, x.At, x.Kids, ()), fun h => ((Branch.mk (h.1) (h.2.1) (h.2.2.1) (h.2.2.2.1)) : Branch), fun _ => rfl, by decide⟩
  | 26 => ⟨[.str, .str, (.int .i64), (.slice 27 (.st 27))], fun (x : Branch) => (x.Key, x.Value, x.At, x.Kids, ()), fun h => ((Branch.mk (h.1) (h.2.1) (h.2.2.1) (h.2.2.2.1)) : Branch), fun _ => rfl, by decide⟩
  | 54 => ⟨[(.int .i64), (.int .i64), .str], fun (x : Reply) => (x.Kind, x.Place, x.Value, ()), fun h => ((Reply.mk (h.1) (h.2.1) (h.2.2.1)) : Reply), fun _ => rfl, by decide⟩
  | 131 => ⟨[(.int .i64), (.int .i64), (.int .i64), (.int .i64), .str], fun (x : Session) => (x.Id, x.Seq, x.Last.Kind, x.Last.Place, x.Last.Value, ()), fun h => ((Session.mk (h.1) (h.2.1) (Reply.mk (h.2.2.1) (h.2.2.2.1) (h.2.2.2.2.1))) : Session), fun _ => rfl, by decide⟩
  | 29 => ⟨[(.slice 9 .str), .str, .str, (.int .i64), (.slice 27 (.st 27)), (.slice 131 (.st 131))], fun (x : Ledger) => (x.Leaves, x.Map.Key, x.Map.Value, x.Map.At, x.Map.Kids, x.Sessions, ()), fun h => ((Ledger.mk (h.1) (Branch.mk (h.2.1) (h.2.2.1) (h.2.2.2.1) (h.2.2.2.2.1)) (h.2.2.2.2.2.1)) : Ledger), fun _ => rfl, by decide⟩
  | 30 => ⟨[(.slice 9 .str), .str, .str, (.int .i64), (.slice 27 (.st 27)), (.slice 131 (.st 131))], fun (x : Ledger) => (x.Leaves, x.Map.Key, x.Map.Value, x.Map.At, x.Map.Kids, x.Sessions, ()), fun h => ((Ledger.mk (h.1) (Branch.mk (h.2.1) (h.2.2.1) (h.2.2.2.1) (h.2.2.2.2.1)) (h.2.2.2.2.2.1)) : Ledger), fun _ => rfl, by decide⟩
  | 45 => ⟨[.str, .str, (.int .i64), (.slice 45 (.st 45))], fun (x : Branch) => (x.Key, x.Value, x.At, x.Kids, ()), fun h => ((Branch.mk (h.1) (h.2.1) (h.2.2.1) (h.2.2.2.1)) : Branch), fun _ => rfl, by decide⟩
  | 44 => ⟨[.str, .str, (.int .i64), (.slice 45 (.st 45))], fun (x : Branch) => (x.Key, x.Value, x.At, x.Kids, ()), fun h => ((Branch.mk (h.1) (h.2.1) (h.2.2.1) (h.2.2.2.1)) : Branch), fun _ => rfl, by decide⟩
  | 162 => ⟨[(.int .i64), (.int .i64), .str], fun (x : Reply) => (x.Kind, x.Place, x.Value, ()), fun h => ((Reply.mk (h.1) (h.2.1) (h.2.2.1)) : Reply), fun _ => rfl, by decide⟩
  | 164 => ⟨[(.int .i64), (.int .i64), (.int .i64), (.int .i64), .str], fun (x : Session) => (x.Id, x.Seq, x.Last.Kind, x.Last.Place, x.Last.Value, ()), fun h => ((Session.mk (h.1) (h.2.1) (Reply.mk (h.2.2.1) (h.2.2.2.1) (h.2.2.2.2.1))) : Session), fun _ => rfl, by decide⟩
  | 47 => ⟨[(.slice 9 .str), .str, .str, (.int .i64), (.slice 45 (.st 45)), (.slice 164 (.st 164))], fun (x : Ledger) => (x.Leaves, x.Map.Key, x.Map.Value, x.Map.At, x.Map.Kids, x.Sessions, ()), fun h => ((Ledger.mk (h.1) (Branch.mk (h.2.1) (h.2.2.1) (h.2.2.2.1) (h.2.2.2.2.1)) (h.2.2.2.2.2.1)) : Ledger), fun _ => rfl, by decide⟩
  | 48 => ⟨[(.slice 9 .str), .str, .str, (.int .i64), (.slice 45 (.st 45)), (.slice 164 (.st 164))], fun (x : Ledger) => (x.Leaves, x.Map.Key, x.Map.Value, x.Map.At, x.Map.Kids, x.Sessions, ()), fun h => ((Ledger.mk (h.1) (Branch.mk (h.2.1) (h.2.2.1) (h.2.2.2.1) (h.2.2.2.2.1)) (h.2.2.2.2.2.1)) : Ledger), fun _ => rfl, by decide⟩
  | 49 => ⟨[(.int .i64), (.int .i64), (.int .i64), .str, .str], fun (x : Command) => (x.Kind, x.Session, x.Seq, x.Key, x.Value, ()), fun h => ((Command.mk (h.1) (h.2.1) (h.2.2.1) (h.2.2.2.1) (h.2.2.2.2.1)) : Command), fun _ => rfl, by decide⟩
  | 50 => ⟨[(.int .i64), (.int .i64), (.int .i64), .str, .str], fun (x : Command) => (x.Kind, x.Session, x.Seq, x.Key, x.Value, ()), fun h => ((Command.mk (h.1) (h.2.1) (h.2.2.1) (h.2.2.2.1) (h.2.2.2.2.1)) : Command), fun _ => rfl, by decide⟩
  | 53 => ⟨[(.int .i64), (.int .i64), .str], fun (x : Reply) => (x.Kind, x.Place, x.Value, ()), fun h => ((Reply.mk (h.1) (h.2.1) (h.2.2.1)) : Reply), fun _ => rfl, by decide⟩
  | 58 => ⟨[(.int .i64), (.int .i64), (.int .i64), .str, .str], fun (x : Command) => (x.Kind, x.Session, x.Seq, x.Key, x.Value, ()), fun h => ((Command.mk (h.1) (h.2.1) (h.2.2.1) (h.2.2.2.1) (h.2.2.2.2.1)) : Command), fun _ => rfl, by decide⟩
  | 97 => ⟨[(.int .i64), (.int .i64), .str], fun (x : Entry) => (x.Term, x.Kind, x.Data, ()), fun h => ((Entry.mk (h.1) (h.2.1) (h.2.2.1)) : Entry), fun _ => rfl, by decide⟩
  | 95 => ⟨[(.int .i64), (.int .i64), (.int .i64), (.slice 97 (.st 97)), (.slice 3 (.int .i64)), (.int .i64), (.slice 3 (.int .i64)), (.slice 3 (.int .i64)), (.slice 3 (.int .i64)), (.int .i64), (.int .i64), (.int .i64), .bool], fun (x : Node) => (x.Id, x.Term, x.Vote, x.Log, x.Start, x.Role, x.Votes, x.Next, x.Match, x.Commit, x.Elapsed, x.Wait, x.Up, ()), fun h => ((Node.mk (h.1) (h.2.1) (h.2.2.1) (h.2.2.2.1) (h.2.2.2.2.1) (h.2.2.2.2.2.1) (h.2.2.2.2.2.2.1) (h.2.2.2.2.2.2.2.1) (h.2.2.2.2.2.2.2.2.1) (h.2.2.2.2.2.2.2.2.2.1) (h.2.2.2.2.2.2.2.2.2.2.1) (h.2.2.2.2.2.2.2.2.2.2.2.1) (h.2.2.2.2.2.2.2.2.2.2.2.2.1)) : Node), fun _ => rfl, by decide⟩
  | 207 => ⟨[(.int .i64), (.int .i64), (.int .i64), (.int .i64), (.int .i64), (.int .i64), (.int .i64), (.slice 97 (.st 97)), .bool], fun (x : Message) => (x.Kind, x.From, x.To, x.Term, x.Index, x.LogTerm, x.Commit, x.Entries, x.Ok, ()), fun h => ((Message.mk (h.1) (h.2.1) (h.2.2.1) (h.2.2.2.1) (h.2.2.2.2.1) (h.2.2.2.2.2.1) (h.2.2.2.2.2.2.1) (h.2.2.2.2.2.2.2.1) (h.2.2.2.2.2.2.2.2.1)) : Message), fun _ => rfl, by decide⟩
  | 200 => ⟨[(.int .i64), (.int .i64), (.slice 97 (.st 97))], fun (x : Lead) => (x.Term, x.Id, x.Log, ()), fun h => ((Lead.mk (h.1) (h.2.1) (h.2.2.1)) : Lead), fun _ => rfl, by decide⟩
  | 203 => ⟨[(.int .i64), (.int .i64), (.int .i64), (.int .i64), (.int .i64), .str], fun (x : Done) => (x.Node, x.Term, x.Index, x.Entry.Term, x.Entry.Kind, x.Entry.Data, ()), fun h => ((Done.mk (h.1) (h.2.1) (h.2.2.1) (Entry.mk (h.2.2.2.1) (h.2.2.2.2.1) (h.2.2.2.2.2.1))) : Done), fun _ => rfl, by decide⟩
  | 85 => ⟨[(.slice 95 (.st 95)), (.slice 207 (.st 207)), (.slice 200 (.st 200)), (.slice 203 (.st 203))], fun (x : Group) => (x.Nodes, x.Wire, x.Leads, x.Dones, ()), fun h => ((Group.mk (h.1) (h.2.1) (h.2.2.1) (h.2.2.2.1)) : Group), fun _ => rfl, by decide⟩
  | 86 => ⟨[(.slice 95 (.st 95)), (.slice 207 (.st 207)), (.slice 200 (.st 200)), (.slice 203 (.st 203))], fun (x : Group) => (x.Nodes, x.Wire, x.Leads, x.Dones, ()), fun h => ((Group.mk (h.1) (h.2.1) (h.2.2.1) (h.2.2.2.1)) : Group), fun _ => rfl, by decide⟩
  | 94 => ⟨[(.int .i64), (.int .i64), (.int .i64), (.slice 97 (.st 97)), (.slice 3 (.int .i64)), (.int .i64), (.slice 3 (.int .i64)), (.slice 3 (.int .i64)), (.slice 3 (.int .i64)), (.int .i64), (.int .i64), (.int .i64), .bool], fun (x : Node) => (x.Id, x.Term, x.Vote, x.Log, x.Start, x.Role, x.Votes, x.Next, x.Match, x.Commit, x.Elapsed, x.Wait, x.Up, ()), fun h => ((Node.mk (h.1) (h.2.1) (h.2.2.1) (h.2.2.2.1) (h.2.2.2.2.1) (h.2.2.2.2.2.1) (h.2.2.2.2.2.2.1) (h.2.2.2.2.2.2.2.1) (h.2.2.2.2.2.2.2.2.1) (h.2.2.2.2.2.2.2.2.2.1) (h.2.2.2.2.2.2.2.2.2.2.1) (h.2.2.2.2.2.2.2.2.2.2.2.1) (h.2.2.2.2.2.2.2.2.2.2.2.2.1)) : Node), fun _ => rfl, by decide⟩
  | 96 => ⟨[(.int .i64), (.int .i64), .str], fun (x : Entry) => (x.Term, x.Kind, x.Data, ()), fun h => ((Entry.mk (h.1) (h.2.1) (h.2.2.1)) : Entry), fun _ => rfl, by decide⟩
  | 130 => ⟨[(.int .i64), (.int .i64), (.int .i64), (.int .i64), .str], fun (x : Session) => (x.Id, x.Seq, x.Last.Kind, x.Last.Place, x.Last.Value, ()), fun h => ((Session.mk (h.1) (h.2.1) (Reply.mk (h.2.2.1) (h.2.2.2.1) (h.2.2.2.2.1))) : Session), fun _ => rfl, by decide⟩
  | 140 => ⟨[(.int .i64), (.int .i64), (.int .i64), .str], fun (x : GroupAct) => (x.Kind, x.N, x.Draw, x.Data, ()), fun h => ((GroupAct.mk (h.1) (h.2.1) (h.2.2.1) (h.2.2.2.1)) : GroupAct), fun _ => rfl, by decide⟩
  | 141 => ⟨[(.int .i64), (.int .i64), (.int .i64), .str], fun (x : GroupAct) => (x.Kind, x.N, x.Draw, x.Data, ()), fun h => ((GroupAct.mk (h.1) (h.2.1) (h.2.2.1) (h.2.2.2.1)) : GroupAct), fun _ => rfl, by decide⟩
  | 180 => ⟨[.str, .str, .str], fun (x : pairOf) => (x.key, x.value, x.hash, ()), fun h => ((pairOf.mk (h.1) (h.2.1) (h.2.2.1)) : pairOf), fun _ => rfl, by decide⟩
  | 155 => ⟨[(.slice 9 .str), (.slice 180 (.st 180)), (.slice 131 (.st 131))], fun (x : books) => (x.leaves, x.pairs, x.sessions, ()), fun h => ((books.mk (h.1) (h.2.1) (h.2.2.1)) : books), fun _ => rfl, by decide⟩
  | 156 => ⟨[(.slice 9 .str), (.slice 180 (.st 180)), (.slice 131 (.st 131))], fun (x : books) => (x.leaves, x.pairs, x.sessions, ()), fun h => ((books.mk (h.1) (h.2.1) (h.2.2.1)) : books), fun _ => rfl, by decide⟩
  | 163 => ⟨[(.int .i64), (.int .i64), (.int .i64), (.int .i64), .str], fun (x : Session) => (x.Id, x.Seq, x.Last.Kind, x.Last.Place, x.Last.Value, ()), fun h => ((Session.mk (h.1) (h.2.1) (Reply.mk (h.2.2.1) (h.2.2.2.1) (h.2.2.2.2.1))) : Session), fun _ => rfl, by decide⟩
  | 179 => ⟨[.str, .str, .str], fun (x : pairOf) => (x.key, x.value, x.hash, ()), fun h => ((pairOf.mk (h.1) (h.2.1) (h.2.2.1)) : pairOf), fun _ => rfl, by decide⟩
  | 182 => ⟨[(.slice 5 (.int .u8)), (.int .i64), (.int .i64)], fun (x : l00Src) => (x.code, x.«at», x.seed, ()), fun h => ((l00Src.mk (h.1) (h.2.1) (h.2.2.1)) : l00Src), fun _ => rfl, by decide⟩
  | 183 => ⟨[(.rsl 5 (.int .u8)), (.int .i64), (.int .i64)], fun (x : l00Src) => (x.code, x.«at», x.seed, ()), fun h => ((l00Src.mk (h.1) (h.2.1) (h.2.2.1)) : l00Src), fun _ => rfl, by decide⟩
  | 189 => ⟨[.str, .bool], fun (x : reader) => (x.s, x.bad, ()), fun h => ((reader.mk (h.1) (h.2.1)) : reader), fun _ => rfl, by decide⟩
  | 190 => ⟨[.str, .bool], fun (x : reader) => (x.s, x.bad, ()), fun h => ((reader.mk (h.1) (h.2.1)) : reader), fun _ => rfl, by decide⟩
  | 199 => ⟨[(.int .i64), (.int .i64), (.slice 97 (.st 97))], fun (x : Lead) => (x.Term, x.Id, x.Log, ()), fun h => ((Lead.mk (h.1) (h.2.1) (h.2.2.1)) : Lead), fun _ => rfl, by decide⟩
  | 202 => ⟨[(.int .i64), (.int .i64), (.int .i64), (.int .i64), (.int .i64), .str], fun (x : Done) => (x.Node, x.Term, x.Index, x.Entry.Term, x.Entry.Kind, x.Entry.Data, ()), fun h => ((Done.mk (h.1) (h.2.1) (h.2.2.1) (Entry.mk (h.2.2.2.1) (h.2.2.2.2.1) (h.2.2.2.2.2.1))) : Done), fun _ => rfl, by decide⟩
  | 206 => ⟨[(.int .i64), (.int .i64), (.int .i64), (.int .i64), (.int .i64), (.int .i64), (.int .i64), (.slice 97 (.st 97)), .bool], fun (x : Message) => (x.Kind, x.From, x.To, x.Term, x.Index, x.LogTerm, x.Commit, x.Entries, x.Ok, ()), fun h => ((Message.mk (h.1) (h.2.1) (h.2.2.1) (h.2.2.2.1) (h.2.2.2.2.1) (h.2.2.2.2.2.1) (h.2.2.2.2.2.2.1) (h.2.2.2.2.2.2.2.1) (h.2.2.2.2.2.2.2.2.1)) : Message), fun _ => rfl, by decide⟩
  | 254 => ⟨[(.int .i64), (.int .i64), (.slice 97 (.st 97))], fun (x : State) => (x.Term, x.Vote, x.Log, ()), fun h => ((State.mk (h.1) (h.2.1) (h.2.2.1)) : State), fun _ => rfl, by decide⟩
  | 255 => ⟨[(.int .i64), (.int .i64), (.slice 97 (.st 97))], fun (x : State) => (x.Term, x.Vote, x.Log, ()), fun h => ((State.mk (h.1) (h.2.1) (h.2.2.1)) : State), fun _ => rfl, by decide⟩
  | 311 => ⟨[(.int .i64), (.int .i64), (.int .i64), (.slice 97 (.st 97)), (.slice 3 (.int .i64)), (.int .i64), (.slice 3 (.int .i64)), (.slice 3 (.int .i64)), (.slice 3 (.int .i64)), (.int .i64), (.int .i64), (.int .i64), .bool, (.slice 207 (.st 207))], fun (x : worker) => (x.Node.Id, x.Node.Term, x.Node.Vote, x.Node.Log, x.Node.Start, x.Node.Role, x.Node.Votes, x.Node.Next, x.Node.Match, x.Node.Commit, x.Node.Elapsed, x.Node.Wait, x.Node.Up, x.sent, ()), fun h => ((worker.mk (Node.mk (h.1) (h.2.1) (h.2.2.1) (h.2.2.2.1) (h.2.2.2.2.1) (h.2.2.2.2.2.1) (h.2.2.2.2.2.2.1) (h.2.2.2.2.2.2.2.1) (h.2.2.2.2.2.2.2.2.1) (h.2.2.2.2.2.2.2.2.2.1) (h.2.2.2.2.2.2.2.2.2.2.1) (h.2.2.2.2.2.2.2.2.2.2.2.1) (h.2.2.2.2.2.2.2.2.2.2.2.2.1)) (h.2.2.2.2.2.2.2.2.2.2.2.2.2.1)) : worker), fun _ => rfl, by decide⟩
  | 312 => ⟨[(.int .i64), (.int .i64), (.int .i64), (.slice 97 (.st 97)), (.slice 3 (.int .i64)), (.int .i64), (.slice 3 (.int .i64)), (.slice 3 (.int .i64)), (.slice 3 (.int .i64)), (.int .i64), (.int .i64), (.int .i64), .bool, (.slice 207 (.st 207))], fun (x : worker) => (x.Node.Id, x.Node.Term, x.Node.Vote, x.Node.Log, x.Node.Start, x.Node.Role, x.Node.Votes, x.Node.Next, x.Node.Match, x.Node.Commit, x.Node.Elapsed, x.Node.Wait, x.Node.Up, x.sent, ()), fun h => ((worker.mk (Node.mk (h.1) (h.2.1) (h.2.2.1) (h.2.2.2.1) (h.2.2.2.2.1) (h.2.2.2.2.2.1) (h.2.2.2.2.2.2.1) (h.2.2.2.2.2.2.2.1) (h.2.2.2.2.2.2.2.2.1) (h.2.2.2.2.2.2.2.2.2.1) (h.2.2.2.2.2.2.2.2.2.2.1) (h.2.2.2.2.2.2.2.2.2.2.2.1) (h.2.2.2.2.2.2.2.2.2.2.2.2.1)) (h.2.2.2.2.2.2.2.2.2.2.2.2.2.1)) : worker), fun _ => rfl, by decide⟩
  | 3 => ⟨[(.int .i64)], fun x => (x, ()), fun h => h.1, fun _ => rfl, by decide⟩
  | n => ⟨[.st n], fun x => (x, ()), fun h => h.1, fun _ => rfl, Nat.one_pos⟩
def E : Env := { S := S, fl := fun n => (ld n).fl, opn := fun n => (ld n).opn, shut := fun n => (ld n).shut, opn_shut := fun n => (ld n).opn_shut, pos := fun n => (ld n).pos, dz := fun n => (sd n).dz }
noncomputable def T : Tb := tbOf Tryz.prog
theorem T_OK : T.OK Tryz.prog := tbOf_ok _
noncomputable def TD : Tb := tbOfD Tryz.prog
theorem TD_OK : TD.OK Tryz.prog := tbOfD_ok _
theorem mixed : Tryz.prog.follows .mixedOrders = true := by kernel_rfl
end Mir.Y
