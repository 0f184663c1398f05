/- Data of the program. -/
import Derived.Test.YtigmgeablmomnaaProg
import Derived.Test.YtigmgeablmomnaaMir27
namespace Mir.Y
set_option linter.unusedVariables false
open Go Go.Proofs Mir
structure boundsError where
  x : Int
  y : Int
  signed : Bool
  code : Int
def boundsError.dz : boundsError := ⟨(0:Int), (0:Int), false, (0:Int)⟩
structure errorAddressString where
  msg : ByteArray
  addr : Int
def errorAddressString.dz : errorAddressString := ⟨ByteArray.empty, (0:Int)⟩
structure Entry where
  Term : Int
  Kind : Int
  Data : ByteArray
def Entry.dz : Entry := ⟨(0:Int), (0:Int), ByteArray.empty⟩
structure Node where
  Id : Int
  Term : Int
  Vote : Int
  Log : List Entry
  Start : List Int
  Role : Int
  Votes : List Int
  Next : List Int
  Match : List Int
  Commit : Int
  Elapsed : Int
  Wait : Int
  Up : Bool
def Node.dz : Node := ⟨(0:Int), (0:Int), (0:Int), [], [], (0:Int), [], [], [], (0:Int), (0:Int), (0:Int), false⟩
structure Message where
  Kind : Int
  From : Int
  To : Int
  Term : Int
  Index : Int
  LogTerm : Int
  Commit : Int
  Entries : List Entry
  Ok : Bool
def Message.dz : Message := ⟨(0:Int), (0:Int), (0:Int), (0:Int), (0:Int), (0:Int), (0:Int), [], false⟩
structure Lead where
  Term : Int
  Id : Int
  Log : List Entry
def Lead.dz : Lead := ⟨(0:Int), (0:Int), []⟩
structure Done where
  Node : Int
  Term : Int
  Index : Int
  Entry : Entry
def Done.dz : Done := ⟨(0:Int), (0:Int), (0:Int), ⟨(0:Int), (0:Int), ByteArray.empty⟩⟩
structure Group where
  Nodes : List Node
  Wire : List Message
  Leads : List Lead
  Dones : List Done
def Group.dz : Group := ⟨[], [], [], []⟩
structure State where
  Term : Int
  Vote : Int
  Log : List Entry
def State.dz : State := ⟨(0:Int), (0:Int), []⟩
structure worker where
  Node : Node
  sent : List Message
def worker.dz : worker := ⟨⟨(0:Int), (0:Int), (0:Int), [], [], (0:Int), [], [], [], (0:Int), (0:Int), (0:Int), false⟩, []⟩
def sd : Nat → SD
  | 7 => ⟨boundsError, boundsError.dz⟩
  | 8 => ⟨boundsError, boundsError.dz⟩
  | 13 => ⟨errorAddressString, errorAddressString.dz⟩
  | 14 => ⟨errorAddressString, errorAddressString.dz⟩
  | 96 => ⟨Entry, Entry.dz⟩
  | 24 => ⟨Node, Node.dz⟩
  | 25 => ⟨Node, Node.dz⟩
  | 138 => ⟨Entry, Entry.dz⟩
  | 35 => ⟨Node, Node.dz⟩
  | 36 => ⟨Node, Node.dz⟩
  | 102 => ⟨Message, Message.dz⟩
  | 128 => ⟨Lead, Lead.dz⟩
  | 131 => ⟨Done, Done.dz⟩
  | 58 => ⟨Group, Group.dz⟩
  | 59 => ⟨Group, Group.dz⟩
  | 158 => ⟨Message, Message.dz⟩
  | 161 => ⟨Lead, Lead.dz⟩
  | 164 => ⟨Done, Done.dz⟩
  | 69 => ⟨Group, Group.dz⟩
  | 70 => ⟨Group, Group.dz⟩
  | 85 => ⟨State, State.dz⟩
  | 86 => ⟨State, State.dz⟩
  | 95 => ⟨Entry, Entry.dz⟩
  | 101 => ⟨Message, Message.dz⟩
  | 106 => ⟨worker, worker.dz⟩
  | 107 => ⟨worker, worker.dz⟩
  | 127 => ⟨Lead, Lead.dz⟩
  | 130 => ⟨Done, Done.dz⟩
  | 157 => ⟨Message, Message.dz⟩
  | 160 => ⟨Lead, Lead.dz⟩
  | 163 => ⟨Done, Done.dz⟩
  | _ => ⟨Bool, false⟩
@[reducible] def S (n : Nat) : Type := (sd n).S
def ld : (n : Nat) → LD S n
  | 7 => ⟨[(.int .i64), (.int .i64), .bool, (.int .u8)], fun (x : boundsError) => (x.x, x.y, x.signed, x.code, ()), fun h => ((boundsError.mk (h.1) (h.2.1) (h.2.2.1) (h.2.2.2.1)) : boundsError), fun _ => rfl, by decide⟩
  | 8 => ⟨[(.int .i64), (.int .i64), .bool, (.int .u8)], fun (x : boundsError) => (x.x, x.y, x.signed, x.code, ()), fun h => ((boundsError.mk (h.1) (h.2.1) (h.2.2.1) (h.2.2.2.1)) : boundsError), fun _ => rfl, by decide⟩
  | 13 => ⟨[.str, (.int .u64)], fun (x : errorAddressString) => (x.msg, x.addr, ()), fun h => ((errorAddressString.mk (h.1) (h.2.1)) : errorAddressString), fun _ => rfl, by decide⟩
  | 14 => ⟨[.str, (.int .u64)], fun (x : errorAddressString) => (x.msg, x.addr, ()), fun h => ((errorAddressString.mk (h.1) (h.2.1)) : errorAddressString), fun _ => rfl, by decide⟩
  | 96 => ⟨[(.int .i64), (.int .i64), .str], fun (x : Entry) => (x.Term, x.Kind, x.Data, ()), fun h => ((Entry.mk (h.1) (h.2.1) (h.2.2.1)) : Entry), fun _ => rfl, by decide⟩
  | 24 => ⟨[(.int .i64), (.int .i64), (.int .i64), (.slice 96 (.st 96)), (.slice 3 (.int .i64)), (.int .i64), (.slice 3 (.int .i64)), (.slice 3 (.int .i64)), (.slice 3 (.int .i64)), (.int .i64), (.int .i64), (.int .i64), .bool], fun (x : Node) => (x.Id, x.Term, x.Vote, x.Log, x.Start, x.Role, x.Votes, x.Next, x.Match, x.Commit, x.Elapsed, x.Wait, x.Up, ()), fun h => ((Node.mk (h.1) (h.2.1) (h.2.2.1) (h.2.2.2.1) (h.2.2.2.2.1) (h.2.2.2.2.2.1) (h.2.2.2.2.2.2.1) (h.2.2.2.2.2.2.2.1) (h.2.2.2.2.2.2.2.2.1) (h.2.2.2.2.2.2.2.2.2.1) (h.2.2.2.2.2.2.2.2.2.2.1) (h.2.2.2.2.2.2.2.2.2.2.2.1) (h.2.2.2.2.2.2.2.2.2.2.2.2.1)) : Node), fun _ => rfl, by decide⟩
  | 25 => ⟨[(.int .i64), (.int .i64), (.int .i64), (.slice 96 (.st 96)), (.slice 3 (.int .i64)), (.int .i64), (.slice 3 (.int .i64)), (.slice 3 (.int .i64)), (.slice 3 (.int .i64)), (.int .i64), (.int .i64), (.int .i64), .bool], fun (x : Node) => (x.Id, x.Term, x.Vote, x.Log, x.Start, x.Role, x.Votes, x.Next, x.Match, x.Commit, x.Elapsed, x.Wait, x.Up, ()), fun h => ((Node.mk (h.1) (h.2.1) (h.2.2.1) (h.2.2.2.1) (h.2.2.2.2.1) (h.2.2.2.2.2.1) (h.2.2.2.2.2.2.1) (h.2.2.2.2.2.2.2.1) (h.2.2.2.2.2.2.2.2.1) (h.2.2.2.2.2.2.2.2.2.1) (h.2.2.2.2.2.2.2.2.2.2.1) (h.2.2.2.2.2.2.2.2.2.2.2.1) (h.2.2.2.2.2.2.2.2.2.2.2.2.1)) : Node), fun _ => rfl, by decide⟩
  | 138 => ⟨[(.int .i64), (.int .i64), .str], fun (x : Entry) => (x.Term, x.Kind, x.Data, ()), fun h => ((Entry.mk (h.1) (h.2.1) (h.2.2.1)) : Entry), fun _ => rfl, by decide⟩
  | 35 => ⟨[(.int .i64), (.int .i64), (.int .i64), (.slice 138 (.st 138)), (.slice 3 (.int .i64)), (.int .i64), (.slice 3 (.int .i64)), (.slice 3 (.int .i64)), (.slice 3 (.int .i64)), (.int .i64), (.int .i64), (.int .i64), .bool], fun (x : Node) => (x.Id, x.Term, x.Vote, x.Log, x.Start, x.Role, x.Votes, x.Next, x.Match, x.Commit, x.Elapsed, x.Wait, x.Up, ()), fun h => ((Node.mk (h.1) (h.2.1) (h.2.2.1) (h.2.2.2.1) (h.2.2.2.2.1) (h.2.2.2.2.2.1) (h.2.2.2.2.2.2.1) (h.2.2.2.2.2.2.2.1) (h.2.2.2.2.2.2.2.2.1) (h.2.2.2.2.2.2.2.2.2.1) (h.2.2.2.2.2.2.2.2.2.2.1) (h.2.2.2.2.2.2.2.2.2.2.2.1) (h.2.2.2.2.2.2.2.2.2.2.2.2.1)) : Node), fun _ => rfl, by decide⟩
  | 36 => ⟨[(.int .i64), (.int .i64), (.int .i64), (.slice 138 (.st 138)), (.slice 3 (.int .i64)), (.int .i64), (.slice 3 (.int .i64)), (.slice 3 (.int .i64)), (.slice 3 (.int .i64)), (.int .i64), (.int .i64), (.int .i64), .bool], fun (x : Node) => (x.Id, x.Term, x.Vote, x.Log, x.Start, x.Role, x.Votes, x.Next, x.Match, x.Commit, x.Elapsed, x.Wait, x.Up, ()), fun h => ((Node.mk (h.1) (h.2.1) (h.2.2.1) (h.2.2.2.1) (h.2.2.2.2.1) (h.2.2.2.2.2.1) (h.2.2.2.2.2.2.1) (h.2.2.2.2.2.2.2.1) (h.2.2.2.2.2.2.2.2.1) (h.2.2.2.2.2.2.2.2.2.1) (h.2.2.2.2.2.2.2.2.2.2.1) (h.2.2.2.2.2.2.2.2.2.2.2.1) (h.2.2.2.2.2.2.2.2.2.2.2.2.1)) : Node), fun _ => rfl, by decide⟩
  | 102 => ⟨[(.int .i64), (.int .i64), (.int .i64), (.int .i64), (.int .i64), (.int .i64), (.int .i64), (.slice 96 (.st 96)), .bool], fun (x : Message) => (x.Kind, x.From, x.To, x.Term, x.Index, x.LogTerm, x.Commit, x.Entries, x.Ok, ()), fun h => ((Message.mk (h.1) (h.2.1) (h.2.2.1) (h.2.2.2.1) (h.2.2.2.2.1) (h.2.2.2.2.2.1) (h.2.2.2.2.2.2.1) (h.2.2.2.2.2.2.2.1) (h.2.2.2.2.2.2.2.2.1)) : Message), fun _ => rfl, by decide⟩
  | 128 => ⟨[(.int .i64), (.int .i64), (.slice 96 (.st 96))], fun (x : Lead) => (x.Term, x.Id, x.Log, ()), fun h => ((Lead.mk (h.1) (h.2.1) (h.2.2.1)) : Lead), fun _ => rfl, by decide⟩
  | 131 => ⟨[(.int .i64), (.int .i64), (.int .i64), (.int .i64), (.int .i64), .str], fun (x : Done) => (x.Node, x.Term, x.Index, x.Entry.Term, x.Entry.Kind, x.Entry.Data, ()), fun h => ((Done.mk (h.1) (h.2.1) (h.2.2.1) (Entry.mk (h.2.2.2.1) (h.2.2.2.2.1) (h.2.2.2.2.2.1))) : Done), fun _ => rfl, by decide⟩
  | 58 => ⟨[(.slice 25 (.st 25)), (.slice 102 (.st 102)), (.slice 128 (.st 128)), (.slice 131 (.st 131))], fun (x : Group) => (x.Nodes, x.Wire, x.Leads, x.Dones, ()), fun h => ((Group.mk (h.1) (h.2.1) (h.2.2.1) (h.2.2.2.1)) : Group), fun _ => rfl, by decide⟩
  | 59 => ⟨[(.slice 25 (.st 25)), (.slice 102 (.st 102)), (.slice 128 (.st 128)), (.slice 131 (.st 131))], fun (x : Group) => (x.Nodes, x.Wire, x.Leads, x.Dones, ()), fun h => ((Group.mk (h.1) (h.2.1) (h.2.2.1) (h.2.2.2.1)) : Group), fun _ => rfl, by decide⟩
  | 158 => ⟨[(.int .i64), (.int .i64), (.int .i64), (.int .i64), (.int .i64), (.int .i64), (.int .i64), (.slice 138 (.st 138)), .bool], fun (x : Message) => (x.Kind, x.From, x.To, x.Term, x.Index, x.LogTerm, x.Commit, x.Entries, x.Ok, ()), fun h => ((Message.mk (h.1) (h.2.1) (h.2.2.1) (h.2.2.2.1) (h.2.2.2.2.1) (h.2.2.2.2.2.1) (h.2.2.2.2.2.2.1) (h.2.2.2.2.2.2.2.1) (h.2.2.2.2.2.2.2.2.1)) : Message), fun _ => rfl, by decide⟩
  | 161 => ⟨[(.int .i64), (.int .i64), (.slice 138 (.st 138))], fun (x : Lead) => (x.Term, x.Id, x.Log, ()), fun h => ((Lead.mk (h.1) (h.2.1) (h.2.2.1)) : Lead), fun _ => rfl, by decide⟩
  | 164 => ⟨[(.int .i64), (.int .i64), (.int .i64), (.int .i64), (.int .i64), .str], fun (x : Done) => (x.Node, x.Term, x.Index, x.Entry.Term, x.Entry.Kind, x.Entry.Data, ()), fun h => ((Done.mk (h.1) (h.2.1) (h.2.2.1) (Entry.mk (h.2.2.2.1) (h.2.2.2.2.1) (h.2.2.2.2.2.1))) : Done), fun _ => rfl, by decide⟩
  | 69 => ⟨[(.slice 36 (.st 36)), (.slice 158 (.st 158)), (.slice 161 (.st 161)), (.slice 164 (.st 164))], fun (x : Group) => (x.Nodes, x.Wire, x.Leads, x.Dones, ()), fun h => ((Group.mk (h.1) (h.2.1) (h.2.2.1) (h.2.2.2.1)) : Group), fun _ => rfl, by decide⟩
  | 70 => ⟨[(.slice 36 (.st 36)), (.slice 158 (.st 158)), (.slice 161 (.st 161)), (.slice 164 (.st 164))], fun (x : Group) => (x.Nodes, x.Wire, x.Leads, x.Dones, ()), fun h => ((Group.mk (h.1) (h.2.1) (h.2.2.1) (h.2.2.2.1)) : Group), fun _ => rfl, by decide⟩
  | 85 => ⟨[(.int .i64), (.int .i64), (.slice 96 (.st 96))], fun (x : State) => (x.Term, x.Vote, x.Log, ()), fun h => ((State.mk (h.1) (h.2.1) (h.2.2.1)) : State), fun _ => rfl, by decide⟩
  | 86 => ⟨[(.int .i64), (.int .i64), (.slice 96 (.st 96))], fun (x : State) => (x.Term, x.Vote, x.Log, ()), fun h => ((State.mk (h.1) (h.2.1) (h.2.2.1)) : State), fun _ => rfl, by decide⟩
  | 95 => ⟨[(.int .i64), (.int .i64), .str], fun (x : Entry) => (x.Term, x.Kind, x.Data, ()), fun h => ((Entry.mk (h.1) (h.2.1) (h.2.2.1)) : Entry), fun _ => rfl, by decide⟩
  | 101 => ⟨[(.int .i64), (.int .i64), (.int .i64), (.int .i64), (.int .i64), (.int .i64), (.int .i64), (.slice 96 (.st 96)), .bool], fun (x : Message) => (x.Kind, x.From, x.To, x.Term, x.Index, x.LogTerm, x.Commit, x.Entries, x.Ok, ()), fun h => ((Message.mk (h.1) (h.2.1) (h.2.2.1) (h.2.2.2.1) (h.2.2.2.2.1) (h.2.2.2.2.2.1) (h.2.2.2.2.2.2.1) (h.2.2.2.2.2.2.2.1) (h.2.2.2.2.2.2.2.2.1)) : Message), fun _ => rfl, by decide⟩
  | 106 => ⟨[(.int .i64), (.int .i64), (.int .i64), (.slice 96 (.st 96)), (.slice 3 (.int .i64)), (.int .i64), (.slice 3 (.int .i64)), (.slice 3 (.int .i64)), (.slice 3 (.int .i64)), (.int .i64), (.int .i64), (.int .i64), .bool, (.slice 102 (.st 102))], fun (x : worker) => (x.Node.Id, x.Node.Term, x.Node.Vote, x.Node.Log, x.Node.Start, x.Node.Role, x.Node.Votes, x.Node.Next, x.Node.Match, x.Node.Commit, x.Node.Elapsed, x.Node.Wait, x.Node.Up, x.sent, ()), fun h => ((worker.mk (Node.mk (h.1) (h.2.1) (h.2.2.1) (h.2.2.2.1) (h.2.2.2.2.1) (h.2.2.2.2.2.1) (h.2.2.2.2.2.2.1) (h.2.2.2.2.2.2.2.1) (h.2.2.2.2.2.2.2.2.1) (h.2.2.2.2.2.2.2.2.2.1) (h.2.2.2.2.2.2.2.2.2.2.1) (h.2.2.2.2.2.2.2.2.2.2.2.1) (h.2.2.2.2.2.2.2.2.2.2.2.2.1)) (h.2.2.2.2.2.2.2.2.2.2.2.2.2.1)) : worker), fun _ => rfl, by decide⟩
  | 107 => ⟨[(.int .i64), (.int .i64), (.int .i64), (.slice 96 (.st 96)), (.slice 3 (.int .i64)), (.int .i64), (.slice 3 (.int .i64)), (.slice 3 (.int .i64)), (.slice 3 (.int .i64)), (.int .i64), (.int .i64), (.int .i64), .bool, (.slice 102 (.st 102))], fun (x : worker) => (x.Node.Id, x.Node.Term, x.Node.Vote, x.Node.Log, x.Node.Start, x.Node.Role, x.Node.Votes, x.Node.Next, x.Node.Match, x.Node.Commit, x.Node.Elapsed, x.Node.Wait, x.Node.Up, x.sent, ()), fun h => ((worker.mk (Node.mk (h.1) (h.2.1) (h.2.2.1) (h.2.2.2.1) (h.2.2.2.2.1) (h.2.2.2.2.2.1) (h.2.2.2.2.2.2.1) (h.2.2.2.2.2.2.2.1) (h.2.2.2.2.2.2.2.2.1) (h.2.2.2.2.2.2.2.2.2.1) (h.2.2.2.2.2.2.2.2.2.2.1) (h.2.2.2.2.2.2.2.2.2.2.2.1) (h.2.2.2.2.2.2.2.2.2.2.2.2.1)) (h.2.2.2.2.2.2.2.2.2.2.2.2.2.1)) : worker), fun _ => rfl, by decide⟩
  | 127 => ⟨[(.int .i64), (.int .i64), (.slice 96 (.st 96))], fun (x : Lead) => (x.Term, x.Id, x.Log, ()), fun h => ((Lead.mk (h.1) (h.2.1) (h.2.2.1)) : Lead), fun _ => rfl, by decide⟩
  | 130 => ⟨[(.int .i64), (.int .i64), (.int .i64), (.int .i64), (.int .i64), .str], fun (x : Done) => (x.Node, x.Term, x.Index, x.Entry.Term, x.Entry.Kind, x.Entry.Data, ()), fun h => ((Done.mk (h.1) (h.2.1) (h.2.2.1) (Entry.mk (h.2.2.2.1) (h.2.2.2.2.1) (h.2.2.2.2.2.1))) : Done), fun _ => rfl, by decide⟩
  | 157 => ⟨[(.int .i64), (.int .i64), (.int .i64), (.int .i64), (.int .i64), (.int .i64), (.int .i64), (.slice 138 (.st 138)), .bool], fun (x : Message) => (x.Kind, x.From, x.To, x.Term, x.Index, x.LogTerm, x.Commit, x.Entries, x.Ok, ()), fun h => ((Message.mk (h.1) (h.2.1) (h.2.2.1) (h.2.2.2.1) (h.2.2.2.2.1) (h.2.2.2.2.2.1) (h.2.2.2.2.2.2.1) (h.2.2.2.2.2.2.2.1) (h.2.2.2.2.2.2.2.2.1)) : Message), fun _ => rfl, by decide⟩
  | 160 => ⟨[(.int .i64), (.int .i64), (.slice 138 (.st 138))], fun (x : Lead) => (x.Term, x.Id, x.Log, ()), fun h => ((Lead.mk (h.1) (h.2.1) (h.2.2.1)) : Lead), fun _ => rfl, by decide⟩
  | 163 => ⟨[(.int .i64), (.int .i64), (.int .i64), (.int .i64), (.int .i64), .str], fun (x : Done) => (x.Node, x.Term, x.Index, x.Entry.Term, x.Entry.Kind, x.Entry.Data, ()), fun h => ((Done.mk (h.1) (h.2.1) (h.2.2.1) (Entry.mk (h.2.2.2.1) (h.2.2.2.2.1) (h.2.2.2.2.2.1))) : Done), fun _ => rfl, by decide⟩
  | n => ⟨[.st n], fun x => (x, ()), fun h => h.1, fun _ => rfl, Nat.one_pos⟩
def E : Env := { S := S, fl := fun n => (ld n).fl, opn := fun n => (ld n).opn, shut := fun n => (ld n).shut, opn_shut := fun n => (ld n).opn_shut, pos := fun n => (ld n).pos, dz := fun n => (sd n).dz }
noncomputable def T : Tb := tbOf Try.prog
theorem T_OK : T.OK Try.prog := tbOf_ok _
noncomputable def TD : Tb := tbOfD Try.prog
theorem TD_OK : TD.OK Try.prog := tbOfD_ok _
theorem mixed : Try.prog.follows .mixedOrders = true := by kernel_rfl
end Mir.Y
