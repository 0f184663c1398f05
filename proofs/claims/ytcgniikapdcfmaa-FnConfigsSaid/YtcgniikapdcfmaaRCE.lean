/- Data of the program. -/
import Derived.Test.YtcgniikapdcfmaaProg
import Derived.Test.YtcgniikapdcfmaaEngC
namespace Mir.Y
set_option linter.unusedVariables false
open Go Go.Proofs Mir
structure boundsError where
 x:Int
 y:Int
 signed:Bool
 code:Int
def boundsError.dz:boundsError:=⟨(0:Int),(0:Int),false,(0:Int)⟩
structure errorAddressString where
 msg:ByteArray
 addr:Int
def errorAddressString.dz:errorAddressString:=⟨ByteArray.empty,(0:Int)⟩
structure Entry where
 Term:Int
 Kind:Int
 Data:ByteArray
def Entry.dz:Entry:=⟨(0:Int),(0:Int),ByteArray.empty⟩
structure Node where
 Id:Int
 Term:Int
 Vote:Int
 Log:List Entry
 Start:List Int
 Role:Int
 Votes:List Int
 Next:List Int
 Match:List Int
 Commit:Int
 Elapsed:Int
 Wait:Int
 Up:Bool
def Node.dz:Node:=⟨(0:Int),(0:Int),(0:Int),[],[],(0:Int),[],[],[],(0:Int),(0:Int),(0:Int),false⟩
structure l00Src where
 code:List Int
 «at» : Int
 seed:Int
def l00Src.dz:l00Src:=⟨[],(0:Int),(0:Int)⟩
structure Message where
 Kind:Int
 From:Int
 To:Int
 Term:Int
 Index:Int
 LogTerm:Int
 Commit:Int
 Entries:List Entry
 Ok:Bool
def Message.dz:Message:=⟨(0:Int),(0:Int),(0:Int),(0:Int),(0:Int),(0:Int),(0:Int),[],false⟩
structure Lead where
 Term:Int
 Id:Int
 Log:List Entry
def Lead.dz:Lead:=⟨(0:Int),(0:Int),[]⟩
structure Done where
 Node:Int
 Term:Int
 Index:Int
 Entry:Entry
def Done.dz:Done:=⟨(0:Int),(0:Int),(0:Int),⟨(0:Int),(0:Int),ByteArray.empty⟩⟩
structure Group where
 Nodes:List Node
 Wire:List Message
 Leads:List Lead
 Dones:List Done
def Group.dz:Group:=⟨[],[],[],[]⟩
structure State where
 Term:Int
 Vote:Int
 Log:List Entry
def State.dz:State:=⟨(0:Int),(0:Int),[]⟩
structure GroupAct where
 Kind:Int
 N:Int
 Draw:Int
 Data:ByteArray
def GroupAct.dz:GroupAct:=⟨(0:Int),(0:Int),(0:Int),ByteArray.empty⟩
structure Command where
 Kind:Int
 Session:Int
 Seq:Int
 Key:ByteArray
 Value:ByteArray
def Command.dz:Command:=⟨(0:Int),(0:Int),(0:Int),ByteArray.empty,ByteArray.empty⟩
def sd:Nat→SD
 | 7=>⟨boundsError,boundsError.dz⟩
 | 8=>⟨boundsError,boundsError.dz⟩
 | 13=>⟨errorAddressString,errorAddressString.dz⟩
 | 14=>⟨errorAddressString,errorAddressString.dz⟩
 | 35=>⟨Entry,Entry.dz⟩
 | 25=>⟨Node,Node.dz⟩
 | 26=>⟨Node,Node.dz⟩
 | 34=>⟨Entry,Entry.dz⟩
 | 45=>⟨l00Src,l00Src.dz⟩
 | 46=>⟨l00Src,l00Src.dz⟩
 | 97=>⟨Message,Message.dz⟩
 | 99=>⟨Lead,Lead.dz⟩
 | 109=>⟨Done,Done.dz⟩
 | 51=>⟨Group,Group.dz⟩
 | 52=>⟨Group,Group.dz⟩
 | 57=>⟨State,State.dz⟩
 | 58=>⟨State,State.dz⟩
 | 83=>⟨GroupAct,GroupAct.dz⟩
 | 84=>⟨GroupAct,GroupAct.dz⟩
 | 96=>⟨Message,Message.dz⟩
 | 98=>⟨Lead,Lead.dz⟩
 | 101=>⟨Command,Command.dz⟩
 | 102=>⟨Command,Command.dz⟩
 | 108=>⟨Done,Done.dz⟩
 | _=>⟨Bool,false⟩
@[reducible] def S (n:Nat):Type:=(sd n).S
def ld:(n:Nat)→LD S n
 | 7=>⟨[(.int .i64),(.int .i64),.bool,(.int .u8)],fun (x:boundsError)=>(x.x,x.y,x.signed,x.code,()),fun h=>((boundsError.mk (h.1) (h.2.1) (h.2.2.1) (h.2.2.2.1)):boundsError),fun _=>rfl,by decide⟩
 | 8=>⟨[(.int .i64),(.int .i64),.bool,(.int .u8)],fun (x:boundsError)=>(x.x,x.y,x.signed,x.code,()),fun h=>((boundsError.mk (h.1) (h.2.1) (h.2.2.1) (h.2.2.2.1)):boundsError),fun _=>rfl,by decide⟩
 | 13=>⟨[.str,(.int .u64)],fun (x:errorAddressString)=>(x.msg,x.addr,()),fun h=>((errorAddressString.mk (h.1) (h.2.1)):errorAddressString),fun _=>rfl,by decide⟩
 | 14=>⟨[.str,(.int .u64)],fun (x:errorAddressString)=>(x.msg,x.addr,()),fun h=>((errorAddressString.mk (h.1) (h.2.1)):errorAddressString),fun _=>rfl,by decide⟩
 | 35=>⟨[(.int .i64),(.int .i64),.str],fun (x:Entry)=>(x.Term,x.Kind,x.Data,()),fun h=>((Entry.mk (h.1) (h.2.1) (h.2.2.1)):Entry),fun _=>rfl,by decide⟩
 | 25=>⟨[(.int .i64),(.int .i64),(.int .i64),(.slice 35 (.st 35)),(.rsl 3 (.int .i64)),(.int .i64),(.slice 3 (.int .i64)),(.slice 3 (.int .i64)),(.slice 3 (.int .i64)),(.int .i64),(.int .i64),(.int .i64),.bool],fun (x:Node)=>(x.Id,x.Term,x.Vote,x.Log,x.Start,x.Role,x.Votes,x.Next,x.Match,x.Commit,x.Elapsed,x.Wait,x.Up,()),fun h=>((Node.mk (h.1) (h.2.1) (h.2.2.1) (h.2.2.2.1) (h.2.2.2.2.1) (h.2.2.2.2.2.1) (h.2.2.2.2.2.2.1) (h.2.2.2.2.2.2.2.1) (h.2.2.2.2.2.2.2.2.1) (h.2.2.2.2.2.2.2.2.2.1) (h.2.2.2.2.2.2.2.2.2.2.1) (h.2.2.2.2.2.2.2.2.2.2.2.1) (h.2.2.2.2.2.2.2.2.2.2.2.2.1)):Node),fun _=>rfl,by decide⟩
 | 26=>⟨[(.int .i64),(.int .i64),(.int .i64),(.slice 35 (.st 35)),(.slice 3 (.int .i64)),(.int .i64),(.slice 3 (.int .i64)),(.slice 3 (.int .i64)),(.slice 3 (.int .i64)),(.int .i64),(.int .i64),(.int .i64),.bool],fun (x:Node)=>(x.Id,x.Term,x.Vote,x.Log,x.Start,x.Role,x.Votes,x.Next,x.Match,x.Commit,x.Elapsed,x.Wait,x.Up,()),fun h=>((Node.mk (h.1) (h.2.1) (h.2.2.1) (h.2.2.2.1) (h.2.2.2.2.1) (h.2.2.2.2.2.1) (h.2.2.2.2.2.2.1) (h.2.2.2.2.2.2.2.1) (h.2.2.2.2.2.2.2.2.1) (h.2.2.2.2.2.2.2.2.2.1) (h.2.2.2.2.2.2.2.2.2.2.1) (h.2.2.2.2.2.2.2.2.2.2.2.1) (h.2.2.2.2.2.2.2.2.2.2.2.2.1)):Node),fun _=>rfl,by decide⟩
 | 34=>⟨[(.int .i64),(.int .i64),.str],fun (x:Entry)=>(x.Term,x.Kind,x.Data,()),fun h=>((Entry.mk (h.1) (h.2.1) (h.2.2.1)):Entry),fun _=>rfl,by decide⟩
 | 45=>⟨[(.slice 5 (.int .u8)),(.int .i64),(.int .i64)],fun (x:l00Src)=>(x.code,x.«at»,x.seed,()),fun h=>((l00Src.mk (h.1) (h.2.1) (h.2.2.1)):l00Src),fun _=>rfl,by decide⟩
 | 46=>⟨[(.rsl 5 (.int .u8)),(.int .i64),(.int .i64)],fun (x:l00Src)=>(x.code,x.«at»,x.seed,()),fun h=>((l00Src.mk (h.1) (h.2.1) (h.2.2.1)):l00Src),fun _=>rfl,by decide⟩
 | 97=>⟨[(.int .i64),(.int .i64),(.int .i64),(.int .i64),(.int .i64),(.int .i64),(.int .i64),(.slice 35 (.st 35)),.bool],fun (x:Message)=>(x.Kind,x.From,x.To,x.Term,x.Index,x.LogTerm,x.Commit,x.Entries,x.Ok,()),fun h=>((Message.mk (h.1) (h.2.1) (h.2.2.1) (h.2.2.2.1) (h.2.2.2.2.1) (h.2.2.2.2.2.1) (h.2.2.2.2.2.2.1) (h.2.2.2.2.2.2.2.1) (h.2.2.2.2.2.2.2.2.1)):Message),fun _=>rfl,by decide⟩
 | 99=>⟨[(.int .i64),(.int .i64),(.slice 35 (.st 35))],fun (x:Lead)=>(x.Term,x.Id,x.Log,()),fun h=>((Lead.mk (h.1) (h.2.1) (h.2.2.1)):Lead),fun _=>rfl,by decide⟩
 | 109=>⟨[(.int .i64),(.int .i64),(.int .i64),(.int .i64),(.int .i64),.str],fun (x:Done)=>(x.Node,x.Term,x.Index,x.Entry.Term,x.Entry.Kind,x.Entry.Data,()),fun h=>((Done.mk (h.1) (h.2.1) (h.2.2.1) (Entry.mk (h.2.2.2.1) (h.2.2.2.2.1) (h.2.2.2.2.2.1))):Done),fun _=>rfl,by decide⟩
 | 51=>⟨[(.slice 26 (.st 26)),(.slice 97 (.st 97)),(.slice 99 (.st 99)),(.slice 109 (.st 109))],fun (x:Group)=>(x.Nodes,x.Wire,x.Leads,x.Dones,()),fun h=>((Group.mk (h.1) (h.2.1) (h.2.2.1) (h.2.2.2.1)):Group),fun _=>rfl,by decide⟩
 | 52=>⟨[(.slice 26 (.st 26)),(.slice 97 (.st 97)),(.slice 99 (.st 99)),(.slice 109 (.st 109))],fun (x:Group)=>(x.Nodes,x.Wire,x.Leads,x.Dones,()),fun h=>((Group.mk (h.1) (h.2.1) (h.2.2.1) (h.2.2.2.1)):Group),fun _=>rfl,by decide⟩
 | 57=>⟨[(.int .i64),(.int .i64),(.slice 35 (.st 35))],fun (x:State)=>(x.Term,x.Vote,x.Log,()),fun h=>((State.mk (h.1) (h.2.1) (h.2.2.1)):State),fun _=>rfl,by decide⟩
 | 58=>⟨[(.int .i64),(.int .i64),(.slice 35 (.st 35))],fun (x:State)=>(x.Term,x.Vote,x.Log,()),fun h=>((State.mk (h.1) (h.2.1) (h.2.2.1)):State),fun _=>rfl,by decide⟩
 | 83=>⟨[(.int .i64),(.int .i64),(.int .i64),.str],fun (x:GroupAct)=>(x.Kind,x.N,x.Draw,x.Data,()),fun h=>((GroupAct.mk (h.1) (h.2.1) (h.2.2.1) (h.2.2.2.1)):GroupAct),fun _=>rfl,by decide⟩
 | 84=>⟨[(.int .i64),(.int .i64),(.int .i64),.str],fun (x:GroupAct)=>(x.Kind,x.N,x.Draw,x.Data,()),fun h=>((GroupAct.mk (h.1) (h.2.1) (h.2.2.1) (h.2.2.2.1)):GroupAct),fun _=>rfl,by decide⟩
 | 96=>⟨[(.int .i64),(.int .i64),(.int .i64),(.int .i64),(.int .i64),(.int .i64),(.int .i64),(.slice 35 (.st 35)),.bool],fun (x:Message)=>(x.Kind,x.From,x.To,x.Term,x.Index,x.LogTerm,x.Commit,x.Entries,x.Ok,()),fun h=>((Message.mk (h.1) (h.2.1) (h.2.2.1) (h.2.2.2.1) (h.2.2.2.2.1) (h.2.2.2.2.2.1) (h.2.2.2.2.2.2.1) (h.2.2.2.2.2.2.2.1) (h.2.2.2.2.2.2.2.2.1)):Message),fun _=>rfl,by decide⟩
 | 98=>⟨[(.int .i64),(.int .i64),(.slice 35 (.st 35))],fun (x:Lead)=>(x.Term,x.Id,x.Log,()),fun h=>((Lead.mk (h.1) (h.2.1) (h.2.2.1)):Lead),fun _=>rfl,by decide⟩
 | 101=>⟨[(.int .i64),(.int .i64),(.int .i64),.str,.str],fun (x:Command)=>(x.Kind,x.Session,x.Seq,x.Key,x.Value,()),fun h=>((Command.mk (h.1) (h.2.1) (h.2.2.1) (h.2.2.2.1) (h.2.2.2.2.1)):Command),fun _=>rfl,by decide⟩
 | 102=>⟨[(.int .i64),(.int .i64),(.int .i64),.str,.str],fun (x:Command)=>(x.Kind,x.Session,x.Seq,x.Key,x.Value,()),fun h=>((Command.mk (h.1) (h.2.1) (h.2.2.1) (h.2.2.2.1) (h.2.2.2.2.1)):Command),fun _=>rfl,by decide⟩
 | 108=>⟨[(.int .i64),(.int .i64),(.int .i64),(.int .i64),(.int .i64),.str],fun (x:Done)=>(x.Node,x.Term,x.Index,x.Entry.Term,x.Entry.Kind,x.Entry.Data,()),fun h=>((Done.mk (h.1) (h.2.1) (h.2.2.1) (Entry.mk (h.2.2.2.1) (h.2.2.2.2.1) (h.2.2.2.2.2.1))):Done),fun _=>rfl,by decide⟩
 | n=>⟨[.st n],fun x=>(x,()),fun h=>h.1,fun _=>rfl,Nat.one_pos⟩
def E:Env:={ S:=S,fl:=fun n=>(ld n).fl,opn:=fun n=>(ld n).opn,shut:=fun n=>(ld n).shut,opn_shut:=fun n=>(ld n).opn_shut,pos:=fun n=>(ld n).pos,dz:=fun n=>(sd n).dz,ua:=none,un:=0,uc:=0 }
noncomputable def T:Tb:=tbOf Try.prog
theorem T_OK:T.OK Try.prog:=tbOf_ok _
theorem mixed:Try.prog.follows .mixedOrders=true:=by kernel_rfl
end Mir.Y
