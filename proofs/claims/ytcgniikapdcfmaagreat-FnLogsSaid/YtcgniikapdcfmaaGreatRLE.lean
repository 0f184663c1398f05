/- Data of the program. -/
import Derived.Test.YtcgniikapdcfmaaGreatProg
import Derived.Test.YtcgniikapdcfmaaGreatEngC
namespace Mir.Y
set_option linter.unusedVariables false
open Go Go.Proofs Mir
structure boundsError where
 x:Int
 y:Int
 signed:Bool
 code:Int
def boundsError.dz:boundsError:=⟨(0:Int),(0:Int),false,(0:Int)⟩
structure errorAddressString where
 msg:ByteArray
 addr:Int
def errorAddressString.dz:errorAddressString:=⟨ByteArray.empty,(0:Int)⟩
structure Entry where
 Term:Int
 Kind:Int
 Data:ByteArray
def Entry.dz:Entry:=⟨(0:Int),(0:Int),ByteArray.empty⟩
structure Node where
 Id:Int
 Term:Int
 Vote:Int
 Log:List Entry
 Start:List Int
 Role:Int
 Votes:List Int
 Next:List Int
 Match:List Int
 Commit:Int
 Elapsed:Int
 Wait:Int
 Up:Bool
def Node.dz:Node:=⟨(0:Int),(0:Int),(0:Int),[],[],(0:Int),[],[],[],(0:Int),(0:Int),(0:Int),false⟩
structure Message where
 Kind:Int
 From:Int
 To:Int
 Term:Int
 Index:Int
 LogTerm:Int
 Commit:Int
 Entries:List Entry
 Ok:Bool
def Message.dz:Message:=⟨(0:Int),(0:Int),(0:Int),(0:Int),(0:Int),(0:Int),(0:Int),[],false⟩
structure Lead where
 Term:Int
 Id:Int
 Log:List Entry
def Lead.dz:Lead:=⟨(0:Int),(0:Int),[]⟩
structure Done where
 Node:Int
 Term:Int
 Index:Int
 Entry:Entry
def Done.dz:Done:=⟨(0:Int),(0:Int),(0:Int),⟨(0:Int),(0:Int),ByteArray.empty⟩⟩
structure Group where
 Nodes:List Node
 Wire:List Message
 Leads:List Lead
 Dones:List Done
def Group.dz:Group:=⟨[],[],[],[]⟩
structure GroupAct where
 Kind:Int
 N:Int
 Draw:Int
 Data:ByteArray
def GroupAct.dz:GroupAct:=⟨(0:Int),(0:Int),(0:Int),ByteArray.empty⟩
structure l00Src where
 code:List Int
 «at» : Int
 seed:Int
def l00Src.dz:l00Src:=⟨[],(0:Int),(0:Int)⟩
structure Command where
 Kind:Int
 Session:Int
 Seq:Int
 Key:ByteArray
 Value:ByteArray
def Command.dz:Command:=⟨(0:Int),(0:Int),(0:Int),ByteArray.empty,ByteArray.empty⟩
structure State where
 Term:Int
 Vote:Int
 Log:List Entry
def State.dz:State:=⟨(0:Int),(0:Int),[]⟩
structure worker where
 Node:Node
 sent:List Message
def worker.dz:worker:=⟨⟨(0:Int),(0:Int),(0:Int),[],[],(0:Int),[],[],[],(0:Int),(0:Int),(0:Int),false⟩,[]⟩
def sd:Nat→SD
 | 7=>⟨boundsError,boundsError.dz⟩
 | 8=>⟨boundsError,boundsError.dz⟩
 | 13=>⟨errorAddressString,errorAddressString.dz⟩
 | 14=>⟨errorAddressString,errorAddressString.dz⟩
 | 41=>⟨Entry,Entry.dz⟩
 | 39=>⟨Node,Node.dz⟩
 | 74=>⟨Message,Message.dz⟩
 | 67=>⟨Lead,Lead.dz⟩
 | 70=>⟨Done,Done.dz⟩
 | 28=>⟨Group,Group.dz⟩
 | 29=>⟨Group,Group.dz⟩
 | 38=>⟨Node,Node.dz⟩
 | 40=>⟨Entry,Entry.dz⟩
 | 45=>⟨GroupAct,GroupAct.dz⟩
 | 46=>⟨GroupAct,GroupAct.dz⟩
 | 60=>⟨l00Src,l00Src.dz⟩
 | 61=>⟨l00Src,l00Src.dz⟩
 | 66=>⟨Lead,Lead.dz⟩
 | 69=>⟨Done,Done.dz⟩
 | 73=>⟨Message,Message.dz⟩
 | 85=>⟨Command,Command.dz⟩
 | 86=>⟨Command,Command.dz⟩
 | 91=>⟨State,State.dz⟩
 | 92=>⟨State,State.dz⟩
 | 118=>⟨worker,worker.dz⟩
 | 119=>⟨worker,worker.dz⟩
 | _=>⟨Bool,false⟩
@[reducible] def S (n:Nat):Type:=(sd n).S
def ld:(n:Nat)→LD S n
 | 7=>⟨[(.int .i64),(.int .i64),.bool,(.int .u8)],fun (x:boundsError)=>(x.x,x.y,x.signed,x.code,()),fun h=>((boundsError.mk (h.1) (h.2.1) (h.2.2.1) (h.2.2.2.1)):boundsError),fun _=>rfl,by decide⟩
 | 8=>⟨[(.int .i64),(.int .i64),.bool,(.int .u8)],fun (x:boundsError)=>(x.x,x.y,x.signed,x.code,()),fun h=>((boundsError.mk (h.1) (h.2.1) (h.2.2.1) (h.2.2.2.1)):boundsError),fun _=>rfl,by decide⟩
 | 13=>⟨[.str,(.int .u64)],fun (x:errorAddressString)=>(x.msg,x.addr,()),fun h=>((errorAddressString.mk (h.1) (h.2.1)):errorAddressString),fun _=>rfl,by decide⟩
 | 14=>⟨[.str,(.int .u64)],fun (x:errorAddressString)=>(x.msg,x.addr,()),fun h=>((errorAddressString.mk (h.1) (h.2.1)):errorAddressString),fun _=>rfl,by decide⟩
 | 41=>⟨[(.int .i64),(.int .i64),.str],fun (x:Entry)=>(x.Term,x.Kind,x.Data,()),fun h=>((Entry.mk (h.1) (h.2.1) (h.2.2.1)):Entry),fun _=>rfl,by decide⟩
 | 39=>⟨[(.int .i64),(.int .i64),(.int .i64),(.slice 41 (.st 41)),(.slice 3 (.int .i64)),(.int .i64),(.slice 3 (.int .i64)),(.slice 3 (.int .i64)),(.slice 3 (.int .i64)),(.int .i64),(.int .i64),(.int .i64),.bool],fun (x:Node)=>(x.Id,x.Term,x.Vote,x.Log,x.Start,x.Role,x.Votes,x.Next,x.Match,x.Commit,x.Elapsed,x.Wait,x.Up,()),fun h=>((Node.mk (h.1) (h.2.1) (h.2.2.1) (h.2.2.2.1) (h.2.2.2.2.1) (h.2.2.2.2.2.1) (h.2.2.2.2.2.2.1) (h.2.2.2.2.2.2.2.1) (h.2.2.2.2.2.2.2.2.1) (h.2.2.2.2.2.2.2.2.2.1) (h.2.2.2.2.2.2.2.2.2.2.1) (h.2.2.2.2.2.2.2.2.2.2.2.1) (h.2.2.2.2.2.2.2.2.2.2.2.2.1)):Node),fun _=>rfl,by decide⟩
 | 74=>⟨[(.int .i64),(.int .i64),(.int .i64),(.int .i64),(.int .i64),(.int .i64),(.int .i64),(.slice 41 (.st 41)),.bool],fun (x:Message)=>(x.Kind,x.From,x.To,x.Term,x.Index,x.LogTerm,x.Commit,x.Entries,x.Ok,()),fun h=>((Message.mk (h.1) (h.2.1) (h.2.2.1) (h.2.2.2.1) (h.2.2.2.2.1) (h.2.2.2.2.2.1) (h.2.2.2.2.2.2.1) (h.2.2.2.2.2.2.2.1) (h.2.2.2.2.2.2.2.2.1)):Message),fun _=>rfl,by decide⟩
 | 67=>⟨[(.int .i64),(.int .i64),(.slice 41 (.st 41))],fun (x:Lead)=>(x.Term,x.Id,x.Log,()),fun h=>((Lead.mk (h.1) (h.2.1) (h.2.2.1)):Lead),fun _=>rfl,by decide⟩
 | 70=>⟨[(.int .i64),(.int .i64),(.int .i64),(.int .i64),(.int .i64),.str],fun (x:Done)=>(x.Node,x.Term,x.Index,x.Entry.Term,x.Entry.Kind,x.Entry.Data,()),fun h=>((Done.mk (h.1) (h.2.1) (h.2.2.1) (Entry.mk (h.2.2.2.1) (h.2.2.2.2.1) (h.2.2.2.2.2.1))):Done),fun _=>rfl,by decide⟩
 | 28=>⟨[(.slice 39 (.st 39)),(.slice 74 (.st 74)),(.slice 67 (.st 67)),(.slice 70 (.st 70))],fun (x:Group)=>(x.Nodes,x.Wire,x.Leads,x.Dones,()),fun h=>((Group.mk (h.1) (h.2.1) (h.2.2.1) (h.2.2.2.1)):Group),fun _=>rfl,by decide⟩
 | 29=>⟨[(.slice 39 (.st 39)),(.slice 74 (.st 74)),(.slice 67 (.st 67)),(.slice 70 (.st 70))],fun (x:Group)=>(x.Nodes,x.Wire,x.Leads,x.Dones,()),fun h=>((Group.mk (h.1) (h.2.1) (h.2.2.1) (h.2.2.2.1)):Group),fun _=>rfl,by decide⟩
 | 38=>⟨[(.int .i64),(.int .i64),(.int .i64),(.slice 41 (.st 41)),(.slice 3 (.int .i64)),(.int .i64),(.slice 3 (.int .i64)),(.slice 3 (.int .i64)),(.slice 3 (.int .i64)),(.int .i64),(.int .i64),(.int .i64),.bool],fun (x:Node)=>(x.Id,x.Term,x.Vote,x.Log,x.Start,x.Role,x.Votes,x.Next,x.Match,x.Commit,x.Elapsed,x.Wait,x.Up,()),fun h=>((Node.mk (h.1) (h.2.1) (h.2.2.1) (h.2.2.2.1) (h.2.2.2.2.1) (h.2.2.2.2.2.1) (h.2.2.2.2.2.2.1) (h.2.2.2.2.2.2.2.1) (h.2.2.2.2.2.2.2.2.1) (h.2.2.2.2.2.2.2.2.2.1) (h.2.2.2.2.2.2.2.2.2.2.1) (h.2.2.2.2.2.2.2.2.2.2.2.1) (h.2.2.2.2.2.2.2.2.2.2.2.2.1)):Node),fun _=>rfl,by decide⟩
 | 40=>⟨[(.int .i64),(.int .i64),.str],fun (x:Entry)=>(x.Term,x.Kind,x.Data,()),fun h=>((Entry.mk (h.1) (h.2.1) (h.2.2.1)):Entry),fun _=>rfl,by decide⟩
 | 45=>⟨[(.int .i64),(.int .i64),(.int .i64),.str],fun (x:GroupAct)=>(x.Kind,x.N,x.Draw,x.Data,()),fun h=>((GroupAct.mk (h.1) (h.2.1) (h.2.2.1) (h.2.2.2.1)):GroupAct),fun _=>rfl,by decide⟩
 | 46=>⟨[(.int .i64),(.int .i64),(.int .i64),.str],fun (x:GroupAct)=>(x.Kind,x.N,x.Draw,x.Data,()),fun h=>((GroupAct.mk (h.1) (h.2.1) (h.2.2.1) (h.2.2.2.1)):GroupAct),fun _=>rfl,by decide⟩
 | 60=>⟨[(.slice 5 (.int .u8)),(.int .i64),(.int .i64)],fun (x:l00Src)=>(x.code,x.«at»,x.seed,()),fun h=>((l00Src.mk (h.1) (h.2.1) (h.2.2.1)):l00Src),fun _=>rfl,by decide⟩
 | 61=>⟨[(.rsl 5 (.int .u8)),(.int .i64),(.int .i64)],fun (x:l00Src)=>(x.code,x.«at»,x.seed,()),fun h=>((l00Src.mk (h.1) (h.2.1) (h.2.2.1)):l00Src),fun _=>rfl,by decide⟩
 | 66=>⟨[(.int .i64),(.int .i64),(.slice 41 (.st 41))],fun (x:Lead)=>(x.Term,x.Id,x.Log,()),fun h=>((Lead.mk (h.1) (h.2.1) (h.2.2.1)):Lead),fun _=>rfl,by decide⟩
 | 69=>⟨[(.int .i64),(.int .i64),(.int .i64),(.int .i64),(.int .i64),.str],fun (x:Done)=>(x.Node,x.Term,x.Index,x.Entry.Term,x.Entry.Kind,x.Entry.Data,()),fun h=>((Done.mk (h.1) (h.2.1) (h.2.2.1) (Entry.mk (h.2.2.2.1) (h.2.2.2.2.1) (h.2.2.2.2.2.1))):Done),fun _=>rfl,by decide⟩
 | 73=>⟨[(.int .i64),(.int .i64),(.int .i64),(.int .i64),(.int .i64),(.int .i64),(.int .i64),(.slice 41 (.st 41)),.bool],fun (x:Message)=>(x.Kind,x.From,x.To,x.Term,x.Index,x.LogTerm,x.Commit,x.Entries,x.Ok,()),fun h=>((Message.mk (h.1) (h.2.1) (h.2.2.1) (h.2.2.2.1) (h.2.2.2.2.1) (h.2.2.2.2.2.1) (h.2.2.2.2.2.2.1) (h.2.2.2.2.2.2.2.1) (h.2.2.2.2.2.2.2.2.1)):Message),fun _=>rfl,by decide⟩
 | 85=>⟨[(.int .i64),(.int .i64),(.int .i64),.str,.str],fun (x:Command)=>(x.Kind,x.Session,x.Seq,x.Key,x.Value,()),fun h=>((Command.mk (h.1) (h.2.1) (h.2.2.1) (h.2.2.2.1) (h.2.2.2.2.1)):Command),fun _=>rfl,by decide⟩
 | 86=>⟨[(.int .i64),(.int .i64),(.int .i64),.str,.str],fun (x:Command)=>(x.Kind,x.Session,x.Seq,x.Key,x.Value,()),fun h=>((Command.mk (h.1) (h.2.1) (h.2.2.1) (h.2.2.2.1) (h.2.2.2.2.1)):Command),fun _=>rfl,by decide⟩
 | 91=>⟨[(.int .i64),(.int .i64),(.slice 41 (.st 41))],fun (x:State)=>(x.Term,x.Vote,x.Log,()),fun h=>((State.mk (h.1) (h.2.1) (h.2.2.1)):State),fun _=>rfl,by decide⟩
 | 92=>⟨[(.int .i64),(.int .i64),(.slice 41 (.st 41))],fun (x:State)=>(x.Term,x.Vote,x.Log,()),fun h=>((State.mk (h.1) (h.2.1) (h.2.2.1)):State),fun _=>rfl,by decide⟩
 | 118=>⟨[(.int .i64),(.int .i64),(.int .i64),(.slice 41 (.st 41)),(.slice 3 (.int .i64)),(.int .i64),(.slice 3 (.int .i64)),(.slice 3 (.int .i64)),(.slice 3 (.int .i64)),(.int .i64),(.int .i64),(.int .i64),.bool,(.slice 74 (.st 74))],fun (x:worker)=>(x.Node.Id,x.Node.Term,x.Node.Vote,x.Node.Log,x.Node.Start,x.Node.Role,x.Node.Votes,x.Node.Next,x.Node.Match,x.Node.Commit,x.Node.Elapsed,x.Node.Wait,x.Node.Up,x.sent,()),fun h=>((worker.mk (Node.mk (h.1) (h.2.1) (h.2.2.1) (h.2.2.2.1) (h.2.2.2.2.1) (h.2.2.2.2.2.1) (h.2.2.2.2.2.2.1) (h.2.2.2.2.2.2.2.1) (h.2.2.2.2.2.2.2.2.1) (h.2.2.2.2.2.2.2.2.2.1) (h.2.2.2.2.2.2.2.2.2.2.1) (h.2.2.2.2.2.2.2.2.2.2.2.1) (h.2.2.2.2.2.2.2.2.2.2.2.2.1)) (h.2.2.2.2.2.2.2.2.2.2.2.2.2.1)):worker),fun _=>rfl,by decide⟩
 | 119=>⟨[(.int .i64),(.int .i64),(.int .i64),(.slice 41 (.st 41)),(.slice 3 (.int .i64)),(.int .i64),(.slice 3 (.int .i64)),(.slice 3 (.int .i64)),(.slice 3 (.int .i64)),(.int .i64),(.int .i64),(.int .i64),.bool,(.slice 74 (.st 74))],fun (x:worker)=>(x.Node.Id,x.Node.Term,x.Node.Vote,x.Node.Log,x.Node.Start,x.Node.Role,x.Node.Votes,x.Node.Next,x.Node.Match,x.Node.Commit,x.Node.Elapsed,x.Node.Wait,x.Node.Up,x.sent,()),fun h=>((worker.mk (Node.mk (h.1) (h.2.1) (h.2.2.1) (h.2.2.2.1) (h.2.2.2.2.1) (h.2.2.2.2.2.1) (h.2.2.2.2.2.2.1) (h.2.2.2.2.2.2.2.1) (h.2.2.2.2.2.2.2.2.1) (h.2.2.2.2.2.2.2.2.2.1) (h.2.2.2.2.2.2.2.2.2.2.1) (h.2.2.2.2.2.2.2.2.2.2.2.1) (h.2.2.2.2.2.2.2.2.2.2.2.2.1)) (h.2.2.2.2.2.2.2.2.2.2.2.2.2.1)):worker),fun _=>rfl,by decide⟩
 | n=>⟨[.st n],fun x=>(x,()),fun h=>h.1,fun _=>rfl,Nat.one_pos⟩
def E:Env:={ S:=S,fl:=fun n=>(ld n).fl,opn:=fun n=>(ld n).opn,shut:=fun n=>(ld n).shut,opn_shut:=fun n=>(ld n).opn_shut,pos:=fun n=>(ld n).pos,dz:=fun n=>(sd n).dz,ua:=none,un:=0,uc:=0 }
noncomputable def T:Tb:=tbOf Tryz.prog
theorem T_OK:T.OK Tryz.prog:=tbOf_ok _
theorem mixed:Tryz.prog.follows .mixedOrders=true:=by kernel_rfl
end Mir.Y
