/- Data of the program. -/
import Derived.Test.YtbbkpgpfppnakaaGreatProg
import Derived.Test.YtbbkpgpfppnakaaGreatEngC
namespace Mir.Y
set_option linter.unusedVariables false
open Go Go.Proofs Mir
structure boundsError where
 x:Int
 y:Int
 signed:Bool
 code:Int
def boundsError.dz:boundsError:=⟨(0:Int),(0:Int),false,(0:Int)⟩
structure errorAddressString where
 msg:ByteArray
 addr:Int
def errorAddressString.dz:errorAddressString:=⟨ByteArray.empty,(0:Int)⟩
structure Entry where
 Term:Int
 Kind:Int
 Data:ByteArray
def Entry.dz:Entry:=⟨(0:Int),(0:Int),ByteArray.empty⟩
structure Node where
 Id:Int
 Term:Int
 Vote:Int
 Log:List Entry
 Start:List Int
 Role:Int
 Votes:List Int
 Next:List Int
 Match:List Int
 Commit:Int
 Elapsed:Int
 Wait:Int
 Up:Bool
def Node.dz:Node:=⟨(0:Int),(0:Int),(0:Int),[],[],(0:Int),[],[],[],(0:Int),(0:Int),(0:Int),false⟩
structure Message where
 Kind:Int
 From:Int
 To:Int
 Term:Int
 Index:Int
 LogTerm:Int
 Commit:Int
 Entries:List Entry
 Ok:Bool
def Message.dz:Message:=⟨(0:Int),(0:Int),(0:Int),(0:Int),(0:Int),(0:Int),(0:Int),[],false⟩
structure worker where
 Node:Node
 sent:List Message
def worker.dz:worker:=⟨⟨(0:Int),(0:Int),(0:Int),[],[],(0:Int),[],[],[],(0:Int),(0:Int),(0:Int),false⟩,[]⟩
structure State where
 Term:Int
 Vote:Int
 Log:List Entry
def State.dz:State:=⟨(0:Int),(0:Int),[]⟩
def sd:Nat→SD
 | 7=>⟨boundsError,boundsError.dz⟩
 | 8=>⟨boundsError,boundsError.dz⟩
 | 13=>⟨errorAddressString,errorAddressString.dz⟩
 | 14=>⟨errorAddressString,errorAddressString.dz⟩
 | 66=>⟨Entry,Entry.dz⟩
 | 24=>⟨Node,Node.dz⟩
 | 25=>⟨Node,Node.dz⟩
 | 26=>⟨Message,Message.dz⟩
 | 27=>⟨Message,Message.dz⟩
 | 72=>⟨Entry,Entry.dz⟩
 | 31=>⟨Node,Node.dz⟩
 | 32=>⟨Node,Node.dz⟩
 | 37=>⟨Message,Message.dz⟩
 | 38=>⟨Message,Message.dz⟩
 | 57=>⟨worker,worker.dz⟩
 | 58=>⟨worker,worker.dz⟩
 | 65=>⟨Entry,Entry.dz⟩
 | 69=>⟨State,State.dz⟩
 | 70=>⟨State,State.dz⟩
 | _=>⟨Bool,false⟩
@[reducible] def S (n:Nat):Type:=(sd n).S
def ld:(n:Nat)→LD S n
 | 7=>⟨[(.int .i64),(.int .i64),.bool,(.int .u8)],fun (x:boundsError)=>(x.x,x.y,x.signed,x.code,()),fun h=>((boundsError.mk (h.1) (h.2.1) (h.2.2.1) (h.2.2.2.1)):boundsError),fun _=>rfl,by decide⟩
 | 8=>⟨[(.int .i64),(.int .i64),.bool,(.int .u8)],fun (x:boundsError)=>(x.x,x.y,x.signed,x.code,()),fun h=>((boundsError.mk (h.1) (h.2.1) (h.2.2.1) (h.2.2.2.1)):boundsError),fun _=>rfl,by decide⟩
 | 13=>⟨[.str,(.int .u64)],fun (x:errorAddressString)=>(x.msg,x.addr,()),fun h=>((errorAddressString.mk (h.1) (h.2.1)):errorAddressString),fun _=>rfl,by decide⟩
 | 14=>⟨[.str,(.int .u64)],fun (x:errorAddressString)=>(x.msg,x.addr,()),fun h=>((errorAddressString.mk (h.1) (h.2.1)):errorAddressString),fun _=>rfl,by decide⟩
 | 66=>⟨[(.int .i64),(.int .i64),.str],fun (x:Entry)=>(x.Term,x.Kind,x.Data,()),fun h=>((Entry.mk (h.1) (h.2.1) (h.2.2.1)):Entry),fun _=>rfl,by decide⟩
 | 24=>⟨[(.int .i64),(.int .i64),(.int .i64),(.slice 66 (.st 66)),(.slice 3 (.int .i64)),(.int .i64),(.slice 3 (.int .i64)),(.slice 3 (.int .i64)),(.slice 3 (.int .i64)),(.int .i64),(.int .i64),(.int .i64),.bool],fun (x:Node)=>(x.Id,x.Term,x.Vote,x.Log,x.Start,x.Role,x.Votes,x.Next,x.Match,x.Commit,x.Elapsed,x.Wait,x.Up,()),fun h=>((Node.mk (h.1) (h.2.1) (h.2.2.1) (h.2.2.2.1) (h.2.2.2.2.1) (h.2.2.2.2.2.1) (h.2.2.2.2.2.2.1) (h.2.2.2.2.2.2.2.1) (h.2.2.2.2.2.2.2.2.1) (h.2.2.2.2.2.2.2.2.2.1) (h.2.2.2.2.2.2.2.2.2.2.1) (h.2.2.2.2.2.2.2.2.2.2.2.1) (h.2.2.2.2.2.2.2.2.2.2.2.2.1)):Node),fun _=>rfl,by decide⟩
 | 25=>⟨[(.int .i64),(.int .i64),(.int .i64),(.slice 66 (.st 66)),(.slice 3 (.int .i64)),(.int .i64),(.slice 3 (.int .i64)),(.slice 3 (.int .i64)),(.slice 3 (.int .i64)),(.int .i64),(.int .i64),(.int .i64),.bool],fun (x:Node)=>(x.Id,x.Term,x.Vote,x.Log,x.Start,x.Role,x.Votes,x.Next,x.Match,x.Commit,x.Elapsed,x.Wait,x.Up,()),fun h=>((Node.mk (h.1) (h.2.1) (h.2.2.1) (h.2.2.2.1) (h.2.2.2.2.1) (h.2.2.2.2.2.1) (h.2.2.2.2.2.2.1) (h.2.2.2.2.2.2.2.1) (h.2.2.2.2.2.2.2.2.1) (h.2.2.2.2.2.2.2.2.2.1) (h.2.2.2.2.2.2.2.2.2.2.1) (h.2.2.2.2.2.2.2.2.2.2.2.1) (h.2.2.2.2.2.2.2.2.2.2.2.2.1)):Node),fun _=>rfl,by decide⟩
 | 26=>⟨[(.int .i64),(.int .i64),(.int .i64),(.int .i64),(.int .i64),(.int .i64),(.int .i64),(.slice 66 (.st 66)),.bool],fun (x:Message)=>(x.Kind,x.From,x.To,x.Term,x.Index,x.LogTerm,x.Commit,x.Entries,x.Ok,()),fun h=>((Message.mk (h.1) (h.2.1) (h.2.2.1) (h.2.2.2.1) (h.2.2.2.2.1) (h.2.2.2.2.2.1) (h.2.2.2.2.2.2.1) (h.2.2.2.2.2.2.2.1) (h.2.2.2.2.2.2.2.2.1)):Message),fun _=>rfl,by decide⟩
 | 27=>⟨[(.int .i64),(.int .i64),(.int .i64),(.int .i64),(.int .i64),(.int .i64),(.int .i64),(.slice 66 (.st 66)),.bool],fun (x:Message)=>(x.Kind,x.From,x.To,x.Term,x.Index,x.LogTerm,x.Commit,x.Entries,x.Ok,()),fun h=>((Message.mk (h.1) (h.2.1) (h.2.2.1) (h.2.2.2.1) (h.2.2.2.2.1) (h.2.2.2.2.2.1) (h.2.2.2.2.2.2.1) (h.2.2.2.2.2.2.2.1) (h.2.2.2.2.2.2.2.2.1)):Message),fun _=>rfl,by decide⟩
 | 72=>⟨[(.int .i64),(.int .i64),.str],fun (x:Entry)=>(x.Term,x.Kind,x.Data,()),fun h=>((Entry.mk (h.1) (h.2.1) (h.2.2.1)):Entry),fun _=>rfl,by decide⟩
 | 31=>⟨[(.int .i64),(.int .i64),(.int .i64),(.slice 72 (.st 72)),(.rsl 3 (.int .i64)),(.int .i64),(.slice 3 (.int .i64)),(.slice 3 (.int .i64)),(.slice 3 (.int .i64)),(.int .i64),(.int .i64),(.int .i64),.bool],fun (x:Node)=>(x.Id,x.Term,x.Vote,x.Log,x.Start,x.Role,x.Votes,x.Next,x.Match,x.Commit,x.Elapsed,x.Wait,x.Up,()),fun h=>((Node.mk (h.1) (h.2.1) (h.2.2.1) (h.2.2.2.1) (h.2.2.2.2.1) (h.2.2.2.2.2.1) (h.2.2.2.2.2.2.1) (h.2.2.2.2.2.2.2.1) (h.2.2.2.2.2.2.2.2.1) (h.2.2.2.2.2.2.2.2.2.1) (h.2.2.2.2.2.2.2.2.2.2.1) (h.2.2.2.2.2.2.2.2.2.2.2.1) (h.2.2.2.2.2.2.2.2.2.2.2.2.1)):Node),fun _=>rfl,by decide⟩
 | 32=>⟨[(.int .i64),(.int .i64),(.int .i64),(.slice 72 (.st 72)),(.slice 3 (.int .i64)),(.int .i64),(.slice 3 (.int .i64)),(.slice 3 (.int .i64)),(.slice 3 (.int .i64)),(.int .i64),(.int .i64),(.int .i64),.bool],fun (x:Node)=>(x.Id,x.Term,x.Vote,x.Log,x.Start,x.Role,x.Votes,x.Next,x.Match,x.Commit,x.Elapsed,x.Wait,x.Up,()),fun h=>((Node.mk (h.1) (h.2.1) (h.2.2.1) (h.2.2.2.1) (h.2.2.2.2.1) (h.2.2.2.2.2.1) (h.2.2.2.2.2.2.1) (h.2.2.2.2.2.2.2.1) (h.2.2.2.2.2.2.2.2.1) (h.2.2.2.2.2.2.2.2.2.1) (h.2.2.2.2.2.2.2.2.2.2.1) (h.2.2.2.2.2.2.2.2.2.2.2.1) (h.2.2.2.2.2.2.2.2.2.2.2.2.1)):Node),fun _=>rfl,by decide⟩
 | 37=>⟨[(.int .i64),(.int .i64),(.int .i64),(.int .i64),(.int .i64),(.int .i64),(.int .i64),(.slice 72 (.st 72)),.bool],fun (x:Message)=>(x.Kind,x.From,x.To,x.Term,x.Index,x.LogTerm,x.Commit,x.Entries,x.Ok,()),fun h=>((Message.mk (h.1) (h.2.1) (h.2.2.1) (h.2.2.2.1) (h.2.2.2.2.1) (h.2.2.2.2.2.1) (h.2.2.2.2.2.2.1) (h.2.2.2.2.2.2.2.1) (h.2.2.2.2.2.2.2.2.1)):Message),fun _=>rfl,by decide⟩
 | 38=>⟨[(.int .i64),(.int .i64),(.int .i64),(.int .i64),(.int .i64),(.int .i64),(.int .i64),(.slice 72 (.st 72)),.bool],fun (x:Message)=>(x.Kind,x.From,x.To,x.Term,x.Index,x.LogTerm,x.Commit,x.Entries,x.Ok,()),fun h=>((Message.mk (h.1) (h.2.1) (h.2.2.1) (h.2.2.2.1) (h.2.2.2.2.1) (h.2.2.2.2.2.1) (h.2.2.2.2.2.2.1) (h.2.2.2.2.2.2.2.1) (h.2.2.2.2.2.2.2.2.1)):Message),fun _=>rfl,by decide⟩
 | 57=>⟨[(.int .i64),(.int .i64),(.int .i64),(.slice 72 (.st 72)),(.slice 3 (.int .i64)),(.int .i64),(.slice 3 (.int .i64)),(.slice 3 (.int .i64)),(.slice 3 (.int .i64)),(.int .i64),(.int .i64),(.int .i64),.bool,(.slice 38 (.st 38))],fun (x:worker)=>(x.Node.Id,x.Node.Term,x.Node.Vote,x.Node.Log,x.Node.Start,x.Node.Role,x.Node.Votes,x.Node.Next,x.Node.Match,x.Node.Commit,x.Node.Elapsed,x.Node.Wait,x.Node.Up,x.sent,()),fun h=>((worker.mk (Node.mk (h.1) (h.2.1) (h.2.2.1) (h.2.2.2.1) (h.2.2.2.2.1) (h.2.2.2.2.2.1) (h.2.2.2.2.2.2.1) (h.2.2.2.2.2.2.2.1) (h.2.2.2.2.2.2.2.2.1) (h.2.2.2.2.2.2.2.2.2.1) (h.2.2.2.2.2.2.2.2.2.2.1) (h.2.2.2.2.2.2.2.2.2.2.2.1) (h.2.2.2.2.2.2.2.2.2.2.2.2.1)) (h.2.2.2.2.2.2.2.2.2.2.2.2.2.1)):worker),fun _=>rfl,by decide⟩
 | 58=>⟨[(.int .i64),(.int .i64),(.int .i64),(.slice 72 (.st 72)),(.slice 3 (.int .i64)),(.int .i64),(.slice 3 (.int .i64)),(.slice 3 (.int .i64)),(.slice 3 (.int .i64)),(.int .i64),(.int .i64),(.int .i64),.bool,(.slice 38 (.st 38))],fun (x:worker)=>(x.Node.Id,x.Node.Term,x.Node.Vote,x.Node.Log,x.Node.Start,x.Node.Role,x.Node.Votes,x.Node.Next,x.Node.Match,x.Node.Commit,x.Node.Elapsed,x.Node.Wait,x.Node.Up,x.sent,()),fun h=>((worker.mk (Node.mk (h.1) (h.2.1) (h.2.2.1) (h.2.2.2.1) (h.2.2.2.2.1) (h.2.2.2.2.2.1) (h.2.2.2.2.2.2.1) (h.2.2.2.2.2.2.2.1) (h.2.2.2.2.2.2.2.2.1) (h.2.2.2.2.2.2.2.2.2.1) (h.2.2.2.2.2.2.2.2.2.2.1) (h.2.2.2.2.2.2.2.2.2.2.2.1) (h.2.2.2.2.2.2.2.2.2.2.2.2.1)) (h.2.2.2.2.2.2.2.2.2.2.2.2.2.1)):worker),fun _=>rfl,by decide⟩
 | 65=>⟨[(.int .i64),(.int .i64),.str],fun (x:Entry)=>(x.Term,x.Kind,x.Data,()),fun h=>((Entry.mk (h.1) (h.2.1) (h.2.2.1)):Entry),fun _=>rfl,by decide⟩
 | 69=>⟨[(.int .i64),(.int .i64),(.slice 72 (.st 72))],fun (x:State)=>(x.Term,x.Vote,x.Log,()),fun h=>((State.mk (h.1) (h.2.1) (h.2.2.1)):State),fun _=>rfl,by decide⟩
 | 70=>⟨[(.int .i64),(.int .i64),(.slice 72 (.st 72))],fun (x:State)=>(x.Term,x.Vote,x.Log,()),fun h=>((State.mk (h.1) (h.2.1) (h.2.2.1)):State),fun _=>rfl,by decide⟩
 | n=>⟨[.st n],fun x=>(x,()),fun h=>h.1,fun _=>rfl,Nat.one_pos⟩
def E:Env:={ S:=S,fl:=fun n=>(ld n).fl,opn:=fun n=>(ld n).opn,shut:=fun n=>(ld n).shut,opn_shut:=fun n=>(ld n).opn_shut,pos:=fun n=>(ld n).pos,dz:=fun n=>(sd n).dz,ua:=none,un:=0,uc:=0 }
noncomputable def T:Tb:=tbOf Tryz.prog
theorem T_OK:T.OK Tryz.prog:=tbOf_ok _
noncomputable def TD:Tb:=tbOfD Tryz.prog
theorem TD_OK:TD.OK Tryz.prog:=tbOfD_ok _
theorem mixed:Tryz.prog.follows .mixedOrders=true:=by kernel_rfl
end Mir.Y
