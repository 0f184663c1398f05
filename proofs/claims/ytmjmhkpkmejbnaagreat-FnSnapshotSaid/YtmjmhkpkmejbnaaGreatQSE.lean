/- Data of the program. -/
import Derived.Test.YtmjmhkpkmejbnaaGreatProg
import Derived.Test.YtmjmhkpkmejbnaaGreatEngC
namespace Mir.Y
set_option linter.unusedVariables false
open Go Go.Proofs Mir
structure boundsError where
 x:Int
 y:Int
 signed:Bool
 code:Int
def boundsError.dz:boundsError:=⟨(0:Int),(0:Int),false,(0:Int)⟩
structure errorAddressString where
 msg:ByteArray
 addr:Int
def errorAddressString.dz:errorAddressString:=⟨ByteArray.empty,(0:Int)⟩
structure Reply where
 Kind:Int
 Place:Int
 Value:ByteArray
def Reply.dz:Reply:=⟨(0:Int),(0:Int),ByteArray.empty⟩
structure Command where
 Kind:Int
 Session:Int
 Seq:Int
 Key:ByteArray
 Value:ByteArray
def Command.dz:Command:=⟨(0:Int),(0:Int),(0:Int),ByteArray.empty,ByteArray.empty⟩
inductive Branch where
 | mk (Key:ByteArray) (Value:ByteArray) (At:Int) (Kids:List Branch)
@[reducible] def Branch.Key:Branch→ByteArray
 | .mk a0 a1 a2 a3=>a0
@[reducible] def Branch.Value:Branch→ByteArray
 | .mk a0 a1 a2 a3=>a1
@[reducible] def Branch.At:Branch→Int
 | .mk a0 a1 a2 a3=>a2
@[reducible] def Branch.Kids:Branch→List Branch
 | .mk a0 a1 a2 a3=>a3
def Branch.dz:Branch:=⟨ByteArray.empty,ByteArray.empty,(0:Int),[]⟩
structure Session where
 Id:Int
 Seq:Int
 Last:Reply
def Session.dz:Session:=⟨(0:Int),(0:Int),⟨(0:Int),(0:Int),ByteArray.empty⟩⟩
structure Ledger where
 Leaves:List ByteArray
 Map:Branch
 Sessions:List Session
def Ledger.dz:Ledger:=⟨[],⟨ByteArray.empty,ByteArray.empty,(0:Int),[]⟩,[]⟩
structure l00Src where
 code:List Int
 «at» : Int
 seed:Int
def l00Src.dz:l00Src:=⟨[],(0:Int),(0:Int)⟩
structure pairOf where
 key:ByteArray
 value:ByteArray
 hash:ByteArray
def pairOf.dz:pairOf:=⟨ByteArray.empty,ByteArray.empty,ByteArray.empty⟩
structure books where
 leaves:List ByteArray
 pairs:List pairOf
 sessions:List Session
def books.dz:books:=⟨[],[],[]⟩
structure reader where
 s:ByteArray
 bad:Bool
def reader.dz:reader:=⟨ByteArray.empty,false⟩
def sd:Nat→SD
 | 7=>⟨boundsError,boundsError.dz⟩
 | 8=>⟨boundsError,boundsError.dz⟩
 | 13=>⟨errorAddressString,errorAddressString.dz⟩
 | 14=>⟨errorAddressString,errorAddressString.dz⟩
 | 26=>⟨Reply,Reply.dz⟩
 | 27=>⟨Reply,Reply.dz⟩
 | 30=>⟨Command,Command.dz⟩
 | 31=>⟨Command,Command.dz⟩
 | 36=>⟨Branch,Branch.dz⟩
 | 35=>⟨Branch,Branch.dz⟩
 | 72=>⟨Session,Session.dz⟩
 | 38=>⟨Ledger,Ledger.dz⟩
 | 39=>⟨Ledger,Ledger.dz⟩
 | 71=>⟨Session,Session.dz⟩
 | 83=>⟨l00Src,l00Src.dz⟩
 | 84=>⟨l00Src,l00Src.dz⟩
 | 98=>⟨pairOf,pairOf.dz⟩
 | 92=>⟨books,books.dz⟩
 | 93=>⟨books,books.dz⟩
 | 97=>⟨pairOf,pairOf.dz⟩
 | 116=>⟨reader,reader.dz⟩
 | 117=>⟨reader,reader.dz⟩
 | 3=>⟨Int,(0:Int)⟩
 | _=>⟨Bool,false⟩
@[reducible] def S (n:Nat):Type:=(sd n).S
def ld:(n:Nat)→LD S n
 | 7=>⟨[(.int .i64),(.int .i64),.bool,(.int .u8)],fun (x:boundsError)=>(x.x,x.y,x.signed,x.code,()),fun h=>((boundsError.mk (h.1) (h.2.1) (h.2.2.1) (h.2.2.2.1)):boundsError),fun _=>rfl,by decide⟩
 | 8=>⟨[(.int .i64),(.int .i64),.bool,(.int .u8)],fun (x:boundsError)=>(x.x,x.y,x.signed,x.code,()),fun h=>((boundsError.mk (h.1) (h.2.1) (h.2.2.1) (h.2.2.2.1)):boundsError),fun _=>rfl,by decide⟩
 | 13=>⟨[.str,(.int .u64)],fun (x:errorAddressString)=>(x.msg,x.addr,()),fun h=>((errorAddressString.mk (h.1) (h.2.1)):errorAddressString),fun _=>rfl,by decide⟩
 | 14=>⟨[.str,(.int .u64)],fun (x:errorAddressString)=>(x.msg,x.addr,()),fun h=>((errorAddressString.mk (h.1) (h.2.1)):errorAddressString),fun _=>rfl,by decide⟩
 | 26=>⟨[(.int .i64),(.int .i64),.str],fun (x:Reply)=>(x.Kind,x.Place,x.Value,()),fun h=>((Reply.mk (h.1) (h.2.1) (h.2.2.1)):Reply),fun _=>rfl,by decide⟩
 | 27=>⟨[(.int .i64),(.int .i64),.str],fun (x:Reply)=>(x.Kind,x.Place,x.Value,()),fun h=>((Reply.mk (h.1) (h.2.1) (h.2.2.1)):Reply),fun _=>rfl,by decide⟩
 | 30=>⟨[(.int .i64),(.int .i64),(.int .i64),.str,.str],fun (x:Command)=>(x.Kind,x.Session,x.Seq,x.Key,x.Value,()),fun h=>((Command.mk (h.1) (h.2.1) (h.2.2.1) (h.2.2.2.1) (h.2.2.2.2.1)):Command),fun _=>rfl,by decide⟩
 | 31=>⟨[(.int .i64),(.int .i64),(.int .i64),.str,.str],fun (x:Command)=>(x.Kind,x.Session,x.Seq,x.Key,x.Value,()),fun h=>((Command.mk (h.1) (h.2.1) (h.2.2.1) (h.2.2.2.1) (h.2.2.2.2.1)):Command),fun _=>rfl,by decide⟩
 | 36=>⟨[.str,.str,(.int .i64),(.slice 36 (.st 36))],fun (x:Branch)=>(x.Key,x.Value,x.At,x.Kids,()),fun h=>((Branch.mk (h.1) (h.2.1) (h.2.2.1) (h.2.2.2.1)):Branch),fun _=>rfl,by decide⟩
 | 35=>⟨[.str,.str,(.int .i64),(.slice 36 (.st 36))],fun (x:Branch)=>(x.Key,x.Value,x.At,x.Kids,()),fun h=>((Branch.mk (h.1) (h.2.1) (h.2.2.1) (h.2.2.2.1)):Branch),fun _=>rfl,by decide⟩
 | 72=>⟨[(.int .i64),(.int .i64),(.int .i64),(.int .i64),.str],fun (x:Session)=>(x.Id,x.Seq,x.Last.Kind,x.Last.Place,x.Last.Value,()),fun h=>((Session.mk (h.1) (h.2.1) (Reply.mk (h.2.2.1) (h.2.2.2.1) (h.2.2.2.2.1))):Session),fun _=>rfl,by decide⟩
 | 38=>⟨[(.slice 9 .str),.str,.str,(.int .i64),(.slice 36 (.st 36)),(.slice 72 (.st 72))],fun (x:Ledger)=>(x.Leaves,x.Map.Key,x.Map.Value,x.Map.At,x.Map.Kids,x.Sessions,()),fun h=>((Ledger.mk (h.1) (Branch.mk (h.2.1) (h.2.2.1) (h.2.2.2.1) (h.2.2.2.2.1)) (h.2.2.2.2.2.1)):Ledger),fun _=>rfl,by decide⟩
 | 39=>⟨[(.slice 9 .str),.str,.str,(.int .i64),(.slice 36 (.st 36)),(.slice 72 (.st 72))],fun (x:Ledger)=>(x.Leaves,x.Map.Key,x.Map.Value,x.Map.At,x.Map.Kids,x.Sessions,()),fun h=>((Ledger.mk (h.1) (Branch.mk (h.2.1) (h.2.2.1) (h.2.2.2.1) (h.2.2.2.2.1)) (h.2.2.2.2.2.1)):Ledger),fun _=>rfl,by decide⟩
 | 71=>⟨[(.int .i64),(.int .i64),(.int .i64),(.int .i64),.str],fun (x:Session)=>(x.Id,x.Seq,x.Last.Kind,x.Last.Place,x.Last.Value,()),fun h=>((Session.mk (h.1) (h.2.1) (Reply.mk (h.2.2.1) (h.2.2.2.1) (h.2.2.2.2.1))):Session),fun _=>rfl,by decide⟩
 | 83=>⟨[(.slice 5 (.int .u8)),(.int .i64),(.int .i64)],fun (x:l00Src)=>(x.code,x.«at»,x.seed,()),fun h=>((l00Src.mk (h.1) (h.2.1) (h.2.2.1)):l00Src),fun _=>rfl,by decide⟩
 | 84=>⟨[(.rsl 5 (.int .u8)),(.int .i64),(.int .i64)],fun (x:l00Src)=>(x.code,x.«at»,x.seed,()),fun h=>((l00Src.mk (h.1) (h.2.1) (h.2.2.1)):l00Src),fun _=>rfl,by decide⟩
 | 98=>⟨[.str,.str,.str],fun (x:pairOf)=>(x.key,x.value,x.hash,()),fun h=>((pairOf.mk (h.1) (h.2.1) (h.2.2.1)):pairOf),fun _=>rfl,by decide⟩
 | 92=>⟨[(.slice 9 .str),(.slice 98 (.st 98)),.opq],fun (x:books)=>(x.leaves,x.pairs,(),()),fun h=>((books.mk (h.1) (h.2.1) ([])):books),fun _=>rfl,by decide⟩
 | 93=>⟨[(.slice 9 .str),(.slice 98 (.st 98)),(.slice 72 (.st 72))],fun (x:books)=>(x.leaves,x.pairs,x.sessions,()),fun h=>((books.mk (h.1) (h.2.1) (h.2.2.1)):books),fun _=>rfl,by decide⟩
 | 97=>⟨[.str,.str,.str],fun (x:pairOf)=>(x.key,x.value,x.hash,()),fun h=>((pairOf.mk (h.1) (h.2.1) (h.2.2.1)):pairOf),fun _=>rfl,by decide⟩
 | 116=>⟨[.str,.bool],fun (x:reader)=>(x.s,x.bad,()),fun h=>((reader.mk (h.1) (h.2.1)):reader),fun _=>rfl,by decide⟩
 | 117=>⟨[.str,.bool],fun (x:reader)=>(x.s,x.bad,()),fun h=>((reader.mk (h.1) (h.2.1)):reader),fun _=>rfl,by decide⟩
 | 3=>⟨[(.int .i64)],fun x=>(x,()),fun h=>h.1,fun _=>rfl,by decide⟩
 | n=>⟨[.st n],fun x=>(x,()),fun h=>h.1,fun _=>rfl,Nat.one_pos⟩
class UU where
 u:Option Addr×Nat×Nat
def E [UU]:Env:={ S:=S,fl:=fun n=>(ld n).fl,opn:=fun n=>(ld n).opn,shut:=fun n=>(ld n).shut,opn_shut:=fun n=>(ld n).opn_shut,pos:=fun n=>(ld n).pos,dz:=fun n=>(sd n).dz,ua:=UU.u.1,un:=UU.u.2.1,uc:=UU.u.2.2 }
noncomputable def T:Tb:=tbOf Tryz.prog
theorem T_OK:T.OK Tryz.prog:=tbOf_ok _
theorem mixed:Tryz.prog.follows .mixedOrders=true:=by kernel_rfl
end Mir.Y
