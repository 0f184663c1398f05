/- The models are what the functions do. -/
import Derived.Test.YtmjmhkpkmejbnaaGreatQSP1
import Derived.Test.YtmjmhkpkmejbnaaGreatQSLays
namespace Mir.Y
set_option linter.unusedVariables false
set_option maxRecDepth 10000
open Go Go.Proofs Mir
set_option linter.unusedSectionVars false
variable [UU]
namespace impl_isHash_1
noncomputable def code:Code:=Tryz.f60.body.getD .skip
abbrev live:Live:=[]
noncomputable def G (N:Nat):Ctx E:=gam []
theorem run (N:Nat) (o0:Orc E R) (a0:ByteArray):runF T (G N) live [] Tryz.f60 code (sp N) o0 (a0,())=m N a0:=by kernel_rfl
theorem G_ok (N:Nat):GamOK Tryz.prog (G N):=gam_ok (trivial)
theorem snd (N:Nat):Sound Tryz.prog E 60 (sp N):=
 Mir.sound T_OK (G_ok N) mixed Tryz.func60 (c:=code) (by kernel_rfl) (by kernel_rfl) (sp N) (Nat.le_of_ble_eq_true (by kernel_rfl)) live [] (by
  rintro ⟨a0,_⟩ r h
  exact ⟨N,2,((run N _ a0).trans rfl).trans h⟩)
end impl_isHash_1
namespace slices_IndexFunc_string_string__impl_isHash_1
noncomputable def code:Code:=Tryz.f93.body.getD .skip
abbrev live:Live:=[(2,[0,1,7,8])]
noncomputable def G (N:Nat):Ctx E:=gam [(60,[],impl_isHash_1.sp N)]
noncomputable def loop2:Code:=codeAt code [1,0,1,0]
noncomputable def body2:Code:=codeAt loop2 [0]
noncomputable def K2 (N:Nat) (o0:Orc E R):KT E R:=kAt T (G N) live [] o0 code [1,0,1,0] (kfin T Tryz.f93 (sp N))
noncomputable def St2 (a0:List ByteArray):(Int×Int)→St E
 | (v1,v2)=>{ ρ:=[(0,.c (.at (.ro 9 .str a0))),(1,.clo 60 []),(7,.c (.at (.int .i64 v1))),(8,.c (.at (.int .i64 v2)))],H:=[],nx:=0,n:=19,pin:=[] }
theorem run (N:Nat) (o0:Orc E R) (a0:List ByteArray):runF T (G N) live [] Tryz.f93 code (sp N) o0 (a0,(),())=m0 N a0 (fun a=>o0 loop2 (K2 N o0) (St2 a0 a)):=by kernel_rfl
theorem body2_0 (N:Nat) (o0:Orc E R) (o1:Orc E R) (q1:St E→Option R) (a0:List ByteArray) (v1:Int) (v2:Int):runA T (G N) live [] o1 body2 (St2 a0 (v1,v2)) (kloop [0,1,7,8] q1 (K2 N o0))=step2 N a0 (fun a=>q1 (St2 a0 a)) (v1,v2):=by kernel_rfl
theorem lp2_eq (N:Nat) (a0:List ByteArray) (a:Int×Int):(orc T (G N) live [] N 2) loop2 (K2 N (orc T (G N) live [] N 2)) (St2 a0 a)=lp2 N a0 a:=
 (orc_loop (b:=body2) (live:=[0,1,7,8]) (by kernel_rfl)).trans (iter_eq (St2 a0) _ _ (fun q1 a=>by
  have hc:=congrFun (congrFun (rfl:(step2 N a0)=(step2 N a0)) (fun a=>q1 (St2 a0 a))) a
  obtain ⟨u0,u1⟩:=a
  exact (body2_0 N (orc T (G N) live [] N 2) (orc T (G N) live [] N 1) q1 a0 u0 u1).trans hc) N a)
theorem G_ok (N:Nat):GamOK Tryz.prog (G N):=gam_ok (⟨impl_isHash_1.snd N,trivial⟩)
theorem snd (N:Nat):Sound Tryz.prog E 93 (sp N):=
 Mir.sound T_OK (G_ok N) mixed Tryz.func93 (c:=code) (by kernel_rfl) (by kernel_rfl) (sp N) (Nat.le_of_ble_eq_true (by kernel_rfl)) live [] (by
  rintro ⟨a0,_,_⟩ r h
  exact ⟨N,2,((run N _ a0).trans (congrArg (m0 N a0) (funext fun a=>lp2_eq N a0 a))).trans h⟩)
end slices_IndexFunc_string_string__impl_isHash_1
namespace slices_ContainsFunc_string_string__impl_isHash_1
noncomputable def code:Code:=Tryz.f59.body.getD .skip
abbrev live:Live:=[]
noncomputable def G (N:Nat):Ctx E:=gam [(93,[60],slices_IndexFunc_string_string__impl_isHash_1.sp N)]
theorem run (N:Nat) (o0:Orc E R) (a0:List ByteArray):runF T (G N) live [] Tryz.f59 code (sp N) o0 (a0,(),())=m N a0:=by kernel_rfl
theorem G_ok (N:Nat):GamOK Tryz.prog (G N):=gam_ok (⟨slices_IndexFunc_string_string__impl_isHash_1.snd N,trivial⟩)
theorem snd (N:Nat):Sound Tryz.prog E 59 (sp N):=
 Mir.sound T_OK (G_ok N) mixed Tryz.func59 (c:=code) (by kernel_rfl) (by kernel_rfl) (sp N) (Nat.le_of_ble_eq_true (by kernel_rfl)) live [] (by
  rintro ⟨a0,_,_⟩ r h
  exact ⟨N,2,((run N _ a0).trans rfl).trans h⟩)
end slices_ContainsFunc_string_string__impl_isHash_1
namespace impl_isHash
noncomputable def code:Code:=Tryz.f31.body.getD .skip
abbrev live:Live:=[]
noncomputable def G (N:Nat):Ctx E:=gam [(59,[60],slices_ContainsFunc_string_string__impl_isHash_1.sp N)]
theorem run (N:Nat) (o0:Orc E R) (a0:List ByteArray):runF T (G N) live [] Tryz.f31 code (sp N) o0 (a0,())=m N a0:=by kernel_rfl
theorem G_ok (N:Nat):GamOK Tryz.prog (G N):=gam_ok (⟨slices_ContainsFunc_string_string__impl_isHash_1.snd N,trivial⟩)
theorem snd (N:Nat):Sound Tryz.prog E 31 (sp N):=
 Mir.sound T_OK (G_ok N) mixed Tryz.func31 (c:=code) (by kernel_rfl) (by kernel_rfl) (sp N) (Nat.le_of_ble_eq_true (by kernel_rfl)) live [] (by
  rintro ⟨a0,_⟩ r h
  exact ⟨N,2,((run N _ a0).trans rfl).trans h⟩)
end impl_isHash
namespace impl_Branch_isEmpty
noncomputable def code:Code:=Tryz.f94.body.getD .skip
abbrev live:Live:=[]
noncomputable def G (N:Nat):Ctx E:=gam []
theorem run (N:Nat) (o0:Orc E R) (a0:Branch):runF T (G N) live [] Tryz.f94 code (sp N) o0 (a0,())=m N a0:=by kernel_rfl
theorem G_ok (N:Nat):GamOK Tryz.prog (G N):=gam_ok (trivial)
theorem snd (N:Nat):Sound Tryz.prog E 94 (sp N):=
 Mir.sound T_OK (G_ok N) mixed Tryz.func94 (c:=code) (by kernel_rfl) (by kernel_rfl) (sp N) (Nat.le_of_ble_eq_true (by kernel_rfl)) live [] (by
  rintro ⟨a0,_⟩ r h
  exact ⟨N,2,((run N _ a0).trans rfl).trans h⟩)
end impl_Branch_isEmpty
namespace impl_within
noncomputable def code:Code:=Tryz.f62.body.getD .skip
abbrev live:Live:=[]
noncomputable def G (N:Nat):Ctx E:=gam []
theorem run (N:Nat) (o0:Orc E R) (a0:Int) (a1:Int) (a2:Int):runF T (G N) live [] Tryz.f62 code (sp N) o0 (a0,a1,a2,())=m N a0 a1 a2:=by kernel_rfl
theorem G_ok (N:Nat):GamOK Tryz.prog (G N):=gam_ok (trivial)
theorem snd (N:Nat):Sound Tryz.prog E 62 (sp N):=
 Mir.sound T_OK (G_ok N) mixed Tryz.func62 (c:=code) (by kernel_rfl) (by kernel_rfl) (sp N) (Nat.le_of_ble_eq_true (by kernel_rfl)) live [] (by
  rintro ⟨a0,a1,a2,_⟩ r h
  exact ⟨N,2,((run N _ a0 a1 a2).trans rfl).trans h⟩)
end impl_within
namespace impl_isKey
noncomputable def code:Code:=Tryz.f49.body.getD .skip
abbrev live:Live:=[]
noncomputable def G (N:Nat):Ctx E:=gam [(62,[],impl_within.sp N)]
theorem run (N:Nat) (o0:Orc E R) (a0:ByteArray):runF T (G N) live [] Tryz.f49 code (sp N) o0 (a0,())=m N a0:=by kernel_rfl
theorem G_ok (N:Nat):GamOK Tryz.prog (G N):=gam_ok (⟨impl_within.snd N,trivial⟩)
theorem snd (N:Nat):Sound Tryz.prog E 49 (sp N):=
 Mir.sound T_OK (G_ok N) mixed Tryz.func49 (c:=code) (by kernel_rfl) (by kernel_rfl) (sp N) (Nat.le_of_ble_eq_true (by kernel_rfl)) live [] (by
  rintro ⟨a0,_⟩ r h
  exact ⟨N,2,((run N _ a0).trans rfl).trans h⟩)
end impl_isKey
namespace impl_isValue
noncomputable def code:Code:=Tryz.f48.body.getD .skip
abbrev live:Live:=[]
noncomputable def G (N:Nat):Ctx E:=gam []
theorem run (N:Nat) (o0:Orc E R) (a0:ByteArray):runF T (G N) live [] Tryz.f48 code (sp N) o0 (a0,())=m N a0:=by kernel_rfl
theorem G_ok (N:Nat):GamOK Tryz.prog (G N):=gam_ok (trivial)
theorem snd (N:Nat):Sound Tryz.prog E 48 (sp N):=
 Mir.sound T_OK (G_ok N) mixed Tryz.func48 (c:=code) (by kernel_rfl) (by kernel_rfl) (sp N) (Nat.le_of_ble_eq_true (by kernel_rfl)) live [] (by
  rintro ⟨a0,_⟩ r h
  exact ⟨N,2,((run N _ a0).trans rfl).trans h⟩)
end impl_isValue
namespace impl_Branch_isLeaf
noncomputable def code:Code:=Tryz.f128.body.getD .skip
abbrev live:Live:=[]
noncomputable def G (N:Nat):Ctx E:=gam [(49,[],impl_isKey.sp N),(48,[],impl_isValue.sp N)]
theorem run (N:Nat) (o0:Orc E R) (a0:Branch):runF T (G N) live [] Tryz.f128 code (sp N) o0 (a0,())=m N a0:=by kernel_rfl
theorem G_ok (N:Nat):GamOK Tryz.prog (G N):=gam_ok (⟨impl_isKey.snd N,impl_isValue.snd N,trivial⟩)
theorem snd (N:Nat):Sound Tryz.prog E 128 (sp N):=
 Mir.sound T_OK (G_ok N) mixed Tryz.func128 (c:=code) (by kernel_rfl) (by kernel_rfl) (sp N) (Nat.le_of_ble_eq_true (by kernel_rfl)) live [] (by
  rintro ⟨a0,_⟩ r h
  exact ⟨N,2,((run N _ a0).trans rfl).trans h⟩)
end impl_Branch_isLeaf
namespace strings_Repeat
theorem repeatL_eq (l:List UInt8):∀n,Go.Lib.repeatL l n=(List.replicate n l).flatten
 | 0=>rfl
 | n+1=>by rw [List.replicate_succ,List.flatten_cons,← repeatL_eq l n];rfl
theorem str_of {W:World} {F:Nat→Prop} {s:ByteArray} {v:Value} (h:RoV E W F .str s v):v = .string s:=by
 obtain ⟨d,h⟩:=h;cases d<;>exact h
theorem int_of {W:World} {F:Nat→Prop} {k:IntKind} {n:Int} {v:Value} (h:RoV E W F (.int k) n v):v = .int k n:=by
 obtain ⟨d,h⟩:=h;cases d<;>exact h
theorem snd (N:Nat):Sound Tryz.prog E 109 (sp N):=by
 refine ⟨fun args W=>run_callFunc_go Tryz.func109 (c:=Tryz.f109.body.getD .skip) (by kernel_rfl) (by kernel_rfl) args W,?_⟩
 rintro W F ⟨a0,a1,_⟩ r args fp hfn ⟨v,vs,f1,f2,rfl,rfl,⟨h0,rfl⟩,⟨w,ws,g1,g2,rfl,rfl,⟨h1,rfl⟩,⟨rfl,rfl⟩⟩⟩ _ _ hF
 obtain rfl:=str_of h0
 obtain rfl:=int_of h1
 have hfn:(bif decide (0≤a1)&&decide (a1≤9223372036854775807)&&decide (a0.size * a1.toNat≤140737488355328) then some (rep a0 a1.toNat) else none)=some r:=hfn
 cases hc:decide (0≤a1)&&decide (a1≤9223372036854775807)&&decide (a0.size * a1.toNat≤140737488355328) with
 | false=>rw [hc] at hfn;cases hfn
 | true=>
  rw [hc,cond_true] at hfn
  cases hfn
  simp only [Bool.and_eq_true,decide_eq_true_eq] at hc
  obtain ⟨⟨c1,c2⟩,c3⟩:=hc
  obtain ⟨n,rfl⟩:=Int.eq_ofNat_of_zero_le c1
  have c2:(n:Int)≤9223372036854775807:=c2
  have c3:a0.size * n≤140737488355328:=c3
  have hcall:=Go.Proofs.Any.strings_Repeat Tryz.repLays Tryz.repExtra a0 n W (by omega) c3
  refine (show Calls Tryz.prog 109 #[.string a0,.int .i64 n] W _ from hcall).mono ?_
  rintro e W' ⟨rfl,hb⟩
  refine ⟨_,rfl,⟨F,[.string (rep a0 n)],[],[],?_,fun b h=>h,fun b h=>⟨.inl h,Nat.lt_of_lt_of_le (hF b h) hb.size⟩,⟨_,[],[],[],rfl,rfl,⟨rfl,rfl⟩,⟨rfl,rfl⟩⟩,⟨_,_,[],[],rfl,rfl,rfl,⟨_,_,[],[],rfl,rfl,rfl,⟨rfl,rfl⟩⟩⟩,List.nodup_nil,fun b h=>by cases h⟩,hb.os,hb.tape,hb.output,hb.size,fun b h _=>hb.block b h⟩
  rw [repeatL_eq];rfl
end strings_Repeat
namespace impl_number
noncomputable def code:Code:=Tryz.f57.body.getD .skip
abbrev live:Live:=[(3,[0,5,6])]
noncomputable def G (N:Nat):Ctx E:=gam []
noncomputable def loop3:Code:=codeAt code [1,1,0,1,0]
noncomputable def body3:Code:=codeAt loop3 [0]
noncomputable def K3 (N:Nat) (o0:Orc E R):KT E R:=kAt T (G N) live [] o0 code [1,1,0,1,0] (kfin T Tryz.f57 (sp N))
noncomputable def St3 (a0:Int) (a1:Int):(Int×Int×(List Int))→St E
 | (v0,v1,v2)=>{ ρ:=[(0,.c (.at (.int .i64 v0))),(5,.c (.at (.own 0))),(6,.c (.at (.int .i64 v1)))],H:=[(0,.row 5 (.int .u8) v2 false)],nx:=1,n:=24,pin:=[] }
theorem run (N:Nat) (o0:Orc E R) (a0:Int) (a1:Int):runF T (G N) live [] Tryz.f57 code (sp N) o0 (a0,a1,())=m0 N a0 a1 (fun a=>o0 loop3 (K3 N o0) (St3 a0 a1 a)):=by kernel_rfl
theorem body3_0 (N:Nat) (o0:Orc E R) (o1:Orc E R) (q1:St E→Option R) (a0:Int) (a1:Int) (v0:Int) (v1:Int) (v2:List Int):runA T (G N) live [] o1 body3 (St3 a0 a1 (v0,v1,v2)) (kloop [0,5,6] q1 (K3 N o0))=step3 N a0 a1 (fun a=>q1 (St3 a0 a1 a)) (v0,v1,v2):=by kernel_rfl
theorem lp3_eq (N:Nat) (a0:Int) (a1:Int) (a:Int×Int×(List Int)):(orc T (G N) live [] N 2) loop3 (K3 N (orc T (G N) live [] N 2)) (St3 a0 a1 a)=lp3 N a0 a1 a:=
 (orc_loop (b:=body3) (live:=[0,5,6]) (by kernel_rfl)).trans (iter_eq (St3 a0 a1) _ _ (fun q1 a=>by
  have hc:=congrFun (congrFun (rfl:(step3 N a0 a1)=(step3 N a0 a1)) (fun a=>q1 (St3 a0 a1 a))) a
  obtain ⟨u0,u1,u2⟩:=a
  exact (body3_0 N (orc T (G N) live [] N 2) (orc T (G N) live [] N 1) q1 a0 a1 u0 u1 u2).trans hc) N a)
theorem G_ok (N:Nat):GamOK Tryz.prog (G N):=gam_ok (trivial)
theorem snd (N:Nat):Sound Tryz.prog E 57 (sp N):=
 Mir.sound T_OK (G_ok N) mixed Tryz.func57 (c:=code) (by kernel_rfl) (by kernel_rfl) (sp N) (Nat.le_of_ble_eq_true (by kernel_rfl)) live [] (by
  rintro ⟨a0,a1,_⟩ r h
  exact ⟨N,2,((run N _ a0 a1).trans (congrArg (m0 N a0 a1) (funext fun a=>lp3_eq N a0 a1 a))).trans h⟩)
end impl_number
namespace impl_hashWords
noncomputable def code:Code:=Tryz.f110.body.getD .skip
abbrev live:Live:=[]
noncomputable def G (N:Nat):Ctx E:=gam []
theorem run (N:Nat) (o0:Orc E R):runF T (G N) live [] Tryz.f110 code (sp N) o0 ()=m N:=by kernel_rfl
theorem G_ok (N:Nat):GamOK Tryz.prog (G N):=gam_ok (trivial)
theorem snd (N:Nat):Sound Tryz.prog E 110 (sp N):=
 Mir.sound T_OK (G_ok N) mixed Tryz.func110 (c:=code) (by kernel_rfl) (by kernel_rfl) (sp N) (Nat.le_of_ble_eq_true (by kernel_rfl)) live [] (by
  rintro _ r h
  exact ⟨N,2,((run N _).trans rfl).trans h⟩)
end impl_hashWords
namespace impl_roundWords
noncomputable def code:Code:=Tryz.f111.body.getD .skip
abbrev live:Live:=[]
noncomputable def G (N:Nat):Ctx E:=gam []
theorem run (N:Nat) (o0:Orc E R):runF T (G N) live [] Tryz.f111 code (sp N) o0 ()=m N:=by kernel_rfl
theorem G_ok (N:Nat):GamOK Tryz.prog (G N):=gam_ok (trivial)
theorem snd (N:Nat):Sound Tryz.prog E 111 (sp N):=
 Mir.sound T_OK (G_ok N) mixed Tryz.func111 (c:=code) (by kernel_rfl) (by kernel_rfl) (sp N) (Nat.le_of_ble_eq_true (by kernel_rfl)) live [] (by
  rintro _ r h
  exact ⟨N,2,((run N _).trans rfl).trans h⟩)
end impl_roundWords
namespace math_bits_RotateLeft32
noncomputable def code:Code:=Tryz.f162.body.getD .skip
abbrev live:Live:=[]
noncomputable def G (N:Nat):Ctx E:=gam []
theorem run (N:Nat) (o0:Orc E R) (a0:Int) (a1:Int):runF T (G N) live [] Tryz.f162 code (sp N) o0 (a0,a1,())=m N a0 a1:=by kernel_rfl
theorem G_ok (N:Nat):GamOK Tryz.prog (G N):=gam_ok (trivial)
theorem snd (N:Nat):Sound Tryz.prog E 162 (sp N):=
 Mir.sound T_OK (G_ok N) mixed Tryz.func162 (c:=code) (by kernel_rfl) (by kernel_rfl) (sp N) (Nat.le_of_ble_eq_true (by kernel_rfl)) live [] (by
  rintro ⟨a0,a1,_⟩ r h
  exact ⟨N,2,((run N _ a0 a1).trans rfl).trans h⟩)
end math_bits_RotateLeft32
namespace impl_turned
noncomputable def code:Code:=Tryz.f149.body.getD .skip
abbrev live:Live:=[]
noncomputable def G (N:Nat):Ctx E:=gam [(162,[],math_bits_RotateLeft32.sp N)]
theorem run (N:Nat) (o0:Orc E R) (a0:Int) (a1:Int):runF T (G N) live [] Tryz.f149 code (sp N) o0 (a0,a1,())=m N a0 a1:=by kernel_rfl
theorem G_ok (N:Nat):GamOK Tryz.prog (G N):=gam_ok (⟨math_bits_RotateLeft32.snd N,trivial⟩)
theorem snd (N:Nat):Sound Tryz.prog E 149 (sp N):=
 Mir.sound T_OK (G_ok N) mixed Tryz.func149 (c:=code) (by kernel_rfl) (by kernel_rfl) (sp N) (Nat.le_of_ble_eq_true (by kernel_rfl)) live [] (by
  rintro ⟨a0,a1,_⟩ r h
  exact ⟨N,2,((run N _ a0 a1).trans rfl).trans h⟩)
end impl_turned
namespace impl_wordsOf
noncomputable def code:Code:=Tryz.f148.body.getD .skip
abbrev live:Live:=[(3,[0,2,3,10])]
noncomputable def G (N:Nat):Ctx E:=gam [(149,[],impl_turned.sp N)]
noncomputable def loop3:Code:=codeAt code [1,1,0,1,0]
noncomputable def body3:Code:=codeAt loop3 [0]
noncomputable def K3 (N:Nat) (o0:Orc E R):KT E R:=kAt T (G N) live [] o0 code [1,1,0,1,0] (kfin T Tryz.f148 (sp N))
noncomputable def St3 (a0:ByteArray):(Int×(List Int)×(List Int))→St E
 | (v1,v2,v3)=>{ ρ:=[(0,.c (.at (.str a0))),(2,.c (.at (.ptr 0 0))),(3,.c (.at (.ptr 1 0))),(10,.c (.at (.int .i64 v1)))],H:=[(0,.arr 150 .u32 64 v2),(1,.arr 150 .u32 64 v3)],nx:=2,n:=87,pin:=[] }
theorem run (N:Nat) (o0:Orc E R) (a0:ByteArray):runF T (G N) live [] Tryz.f148 code (sp N) o0 (a0,())=m0 N a0 (fun a=>o0 loop3 (K3 N o0) (St3 a0 a)):=by kernel_rfl
theorem body3_0 (N:Nat) (o0:Orc E R) (o1:Orc E R) (q1:St E→Option R) (a0:ByteArray) (v1:Int) (v2:List Int) (v3:List Int):runA T (G N) live [] o1 body3 (St3 a0 (v1,v2,v3)) (kloop [0,2,3,10] q1 (K3 N o0))=step3 N a0 (fun a=>q1 (St3 a0 a)) (v1,v2,v3):=by kernel_rfl
theorem lp3_eq (N:Nat) (a0:ByteArray) (a:Int×(List Int)×(List Int)):(orc T (G N) live [] N 2) loop3 (K3 N (orc T (G N) live [] N 2)) (St3 a0 a)=lp3 N a0 a:=
 (orc_loop (b:=body3) (live:=[0,2,3,10]) (by kernel_rfl)).trans (iter_eq (St3 a0) _ _ (fun q1 a=>by
  have hc:=congrFun (congrFun (rfl:(step3 N a0)=(step3 N a0)) (fun a=>q1 (St3 a0 a))) a
  obtain ⟨u0,u1,u2⟩:=a
  exact (body3_0 N (orc T (G N) live [] N 2) (orc T (G N) live [] N 1) q1 a0 u0 u1 u2).trans hc) N a)
theorem G_ok (N:Nat):GamOK Tryz.prog (G N):=gam_ok (⟨impl_turned.snd N,trivial⟩)
theorem snd (N:Nat):Sound Tryz.prog E 148 (sp N):=
 Mir.sound T_OK (G_ok N) mixed Tryz.func148 (c:=code) (by kernel_rfl) (by kernel_rfl) (sp N) (Nat.le_of_ble_eq_true (by kernel_rfl)) live [] (by
  rintro ⟨a0,_⟩ r h
  exact ⟨N,2,((run N _ a0).trans (congrArg (m0 N a0) (funext fun a=>lp3_eq N a0 a))).trans h⟩)
end impl_wordsOf
namespace impl_blockHash
noncomputable def code:Code:=Tryz.f112.body.getD .skip
abbrev live:Live:=[(11,[3,6,7,100]),(3,[3,4,6,7,8,22])]
noncomputable def G (N:Nat):Ctx E:=gam [(148,[],impl_wordsOf.sp N),(149,[],impl_turned.sp N)]
noncomputable def loop3:Code:=codeAt code [1,1,0,1,0]
noncomputable def body3:Code:=codeAt loop3 [0]
noncomputable def loop11:Code:=codeAt code [1,1,1,0,1,0]
noncomputable def body11:Code:=codeAt loop11 [0]
noncomputable def K3 (N:Nat) (o0:Orc E R):KT E R:=kAt T (G N) live [] o0 code [1,1,0,1,0] (kfin T Tryz.f112 (sp N))
noncomputable def St3 (a0:List Int) (a1:List Int) (a2:ByteArray):(Int×(List Int)×(List Int)×(List Int))→St E
 | (v0,v3,v4,v5)=>{ ρ:=[(3,.c (.at (.ptr 0 0))),(4,.c (.at (.ptr 1 0))),(6,.c (.at (.ptr 2 0))),(7,.c (.at (.ptr 3 0))),(8,.c (.at (.ptr 4 0))),(22,.c (.at (.int .i64 v0)))],H:=[(0,.arr 148 .u32 8 a0),(1,.arr 150 .u32 64 a1),(2,.arr 148 .u32 8 v3),(3,.arr 148 .u32 8 v4),(4,.arr 150 .u32 64 v5)],nx:=5,n:=113,pin:=[] }
noncomputable def K11 (N:Nat) (o0:Orc E R):KT E R:=kAt T (G N) live [] o0 code [1,1,1,0,1,0] (kfin T Tryz.f112 (sp N))
noncomputable def St11 (a0:List Int) (a1:List Int) (a2:ByteArray):(Int×(List Int)×(List Int))→St E
 | (v0,v2,v3)=>{ ρ:=[(3,.c (.at (.ptr 0 0))),(6,.c (.at (.ptr 1 0))),(7,.c (.at (.ptr 2 0))),(100,.c (.at (.int .i64 v0)))],H:=[(0,.arr 148 .u32 8 a0),(1,.arr 148 .u32 8 v2),(2,.arr 148 .u32 8 v3)],nx:=3,n:=113,pin:=[] }
theorem run (N:Nat) (o0:Orc E R) (a0:List Int) (a1:List Int) (a2:ByteArray):runF T (G N) live [] Tryz.f112 code (sp N) o0 (a0,a1,a2,())=m0 N a0 a1 a2 (fun a=>o0 loop3 (K3 N o0) (St3 a0 a1 a2 a)):=by kernel_rfl
theorem body3_0 (N:Nat) (o0:Orc E R) (o1:Orc E R) (q1:St E→Option R) (a0:List Int) (a1:List Int) (a2:ByteArray) (v0:Int) (v3:List Int) (v4:List Int) (v5:List Int):runA T (G N) live [] o1 body3 (St3 a0 a1 a2 (v0,v3,v4,v5)) (kloop [3,4,6,7,8,22] q1 (K3 N o0))=step3 N a0 a1 a2 (fun a=>o0 loop11 (K11 N o0) (St11 a0 a1 a2 a)) (fun a=>q1 (St3 a0 a1 a2 a)) (v0,v3,v4,v5):=by kernel_rfl
theorem body11_0 (N:Nat) (o0:Orc E R) (o1:Orc E R) (q1:St E→Option R) (a0:List Int) (a1:List Int) (a2:ByteArray) (v0:Int) (v2:List Int) (v3:List Int):runA T (G N) live [] o1 body11 (St11 a0 a1 a2 (v0,v2,v3)) (kloop [3,6,7,100] q1 (K11 N o0))=step11 N a0 a1 a2 (fun a=>q1 (St11 a0 a1 a2 a)) (v0,v2,v3):=by kernel_rfl
theorem lp11_eq (N:Nat) (a0:List Int) (a1:List Int) (a2:ByteArray) (a:Int×(List Int)×(List Int)):(orc T (G N) live [] N 2) loop11 (K11 N (orc T (G N) live [] N 2)) (St11 a0 a1 a2 a)=lp11 N a0 a1 a2 a:=
 (orc_loop (b:=body11) (live:=[3,6,7,100]) (by kernel_rfl)).trans (iter_eq (St11 a0 a1 a2) _ _ (fun q1 a=>by
  have hc:=congrFun (congrFun (rfl:(step11 N a0 a1 a2)=(step11 N a0 a1 a2)) (fun a=>q1 (St11 a0 a1 a2 a))) a
  obtain ⟨u0,u1,u2⟩:=a
  exact (body11_0 N (orc T (G N) live [] N 2) (orc T (G N) live [] N 1) q1 a0 a1 a2 u0 u1 u2).trans hc) N a)
theorem lp3_eq (N:Nat) (a0:List Int) (a1:List Int) (a2:ByteArray) (a:Int×(List Int)×(List Int)×(List Int)):(orc T (G N) live [] N 2) loop3 (K3 N (orc T (G N) live [] N 2)) (St3 a0 a1 a2 a)=lp3 N a0 a1 a2 a:=
 (orc_loop (b:=body3) (live:=[3,4,6,7,8,22]) (by kernel_rfl)).trans (iter_eq (St3 a0 a1 a2) _ _ (fun q1 a=>by
  have hc:=congrFun (congrFun (congrArg (step3 N a0 a1 a2) (funext fun a=>lp11_eq N a0 a1 a2 a)) (fun a=>q1 (St3 a0 a1 a2 a))) a
  obtain ⟨u0,u1,u2,u3⟩:=a
  exact (body3_0 N (orc T (G N) live [] N 2) (orc T (G N) live [] N 1) q1 a0 a1 a2 u0 u1 u2 u3).trans hc) N a)
theorem G_ok (N:Nat):GamOK Tryz.prog (G N):=gam_ok (⟨impl_wordsOf.snd N,impl_turned.snd N,trivial⟩)
theorem snd (N:Nat):Sound Tryz.prog E 112 (sp N):=
 Mir.sound T_OK (G_ok N) mixed Tryz.func112 (c:=code) (by kernel_rfl) (by kernel_rfl) (sp N) (Nat.le_of_ble_eq_true (by kernel_rfl)) live [] (by
  rintro ⟨a0,a1,a2,_⟩ r h
  exact ⟨N,2,((run N _ a0 a1 a2).trans (congrArg (m0 N a0 a1 a2) (funext fun a=>lp3_eq N a0 a1 a2 a))).trans h⟩)
end impl_blockHash
namespace impl_hash
noncomputable def code:Code:=Tryz.f70.body.getD .skip
abbrev live:Live:=[(9,[7,40,41]),(4,[3,4,5,6])]
noncomputable def G (N:Nat):Ctx E:=gam [(109,[],strings_Repeat.sp N),(57,[],impl_number.sp N),(110,[],impl_hashWords.sp N),(111,[],impl_roundWords.sp N),(112,[],impl_blockHash.sp N)]
noncomputable def loop4:Code:=codeAt code [1,1,1,0,1,0]
noncomputable def body4:Code:=codeAt loop4 [0]
noncomputable def loop9:Code:=codeAt code [1,1,1,1,1,0,1,0]
noncomputable def body9:Code:=codeAt loop9 [0]
noncomputable def K4 (N:Nat) (o0:Orc E R):KT E R:=kAt T (G N) live [] o0 code [1,1,1,0,1,0] (kfin T Tryz.f70 (sp N))
noncomputable def St4 (a0:ByteArray):(ByteArray×Int×(List Int)×(List Int))→St E
 | (v0,v1,v2,v3)=>{ ρ:=[(3,.c (.at (.str v0))),(4,.c (.at (.ptr 0 0))),(5,.c (.at (.ptr 1 0))),(6,.c (.at (.int .i64 v1)))],H:=[(0,.arr 148 .u32 8 v2),(1,.arr 150 .u32 64 v3)],nx:=2,n:=51,pin:=[] }
noncomputable def K9 (N:Nat) (o0:Orc E R):KT E R:=kAt T (G N) live [] o0 code [1,1,1,1,1,0,1,0] (kfin T Tryz.f70 (sp N))
noncomputable def St9 (a0:ByteArray):(ByteArray×(List Int)×Int)→St E
 | (v0,v1,v2)=>{ ρ:=[(7,.c (.at (.str v0))),(40,.c (.arr .u32 8 v1)),(41,.c (.at (.int .i64 v2)))],H:=[],nx:=0,n:=51,pin:=[] }
theorem run (N:Nat) (o0:Orc E R) (a0:ByteArray):runF T (G N) live [] Tryz.f70 code (sp N) o0 (a0,())=m0 N a0 (fun a=>o0 loop4 (K4 N o0) (St4 a0 a)):=by kernel_rfl
theorem body4_0 (N:Nat) (o0:Orc E R) (o1:Orc E R) (q1:St E→Option R) (a0:ByteArray) (v0:ByteArray) (v1:Int) (v2:List Int) (v3:List Int):runA T (G N) live [] o1 body4 (St4 a0 (v0,v1,v2,v3)) (kloop [3,4,5,6] q1 (K4 N o0))=step4 N a0 (fun a=>o0 loop9 (K9 N o0) (St9 a0 a)) (fun a=>q1 (St4 a0 a)) (v0,v1,v2,v3):=by kernel_rfl
theorem body9_0 (N:Nat) (o0:Orc E R) (o1:Orc E R) (q1:St E→Option R) (a0:ByteArray) (v0:ByteArray) (v1:List Int) (v2:Int):runA T (G N) live [] o1 body9 (St9 a0 (v0,v1,v2)) (kloop [7,40,41] q1 (K9 N o0))=step9 N a0 (fun a=>q1 (St9 a0 a)) (v0,v1,v2):=by kernel_rfl
theorem lp9_eq (N:Nat) (a0:ByteArray) (a:ByteArray×(List Int)×Int):(orc T (G N) live [] N 2) loop9 (K9 N (orc T (G N) live [] N 2)) (St9 a0 a)=lp9 N a0 a:=
 (orc_loop (b:=body9) (live:=[7,40,41]) (by kernel_rfl)).trans (iter_eq (St9 a0) _ _ (fun q1 a=>by
  have hc:=congrFun (congrFun (rfl:(step9 N a0)=(step9 N a0)) (fun a=>q1 (St9 a0 a))) a
  obtain ⟨u0,u1,u2⟩:=a
  exact (body9_0 N (orc T (G N) live [] N 2) (orc T (G N) live [] N 1) q1 a0 u0 u1 u2).trans hc) N a)
theorem lp4_eq (N:Nat) (a0:ByteArray) (a:ByteArray×Int×(List Int)×(List Int)):(orc T (G N) live [] N 2) loop4 (K4 N (orc T (G N) live [] N 2)) (St4 a0 a)=lp4 N a0 a:=
 (orc_loop (b:=body4) (live:=[3,4,5,6]) (by kernel_rfl)).trans (iter_eq (St4 a0) _ _ (fun q1 a=>by
  have hc:=congrFun (congrFun (congrArg (step4 N a0) (funext fun a=>lp9_eq N a0 a)) (fun a=>q1 (St4 a0 a))) a
  obtain ⟨u0,u1,u2,u3⟩:=a
  exact (body4_0 N (orc T (G N) live [] N 2) (orc T (G N) live [] N 1) q1 a0 u0 u1 u2 u3).trans hc) N a)
theorem G_ok (N:Nat):GamOK Tryz.prog (G N):=gam_ok (⟨strings_Repeat.snd N,impl_number.snd N,impl_hashWords.snd N,impl_roundWords.snd N,impl_blockHash.snd N,trivial⟩)
theorem snd (N:Nat):Sound Tryz.prog E 70 (sp N):=
 Mir.sound T_OK (G_ok N) mixed Tryz.func70 (c:=code) (by kernel_rfl) (by kernel_rfl) (sp N) (Nat.le_of_ble_eq_true (by kernel_rfl)) live [] (by
  rintro ⟨a0,_⟩ r h
  exact ⟨N,2,((run N _ a0).trans (congrArg (m0 N a0) (funext fun a=>lp4_eq N a0 a))).trans h⟩)
end impl_hash
namespace impl_Branch_isFork
noncomputable def code:Code:=Tryz.f129.body.getD .skip
abbrev live:Live:=[]
noncomputable def G (N:Nat):Ctx E:=gam [(62,[],impl_within.sp N)]
theorem run (N:Nat) (o0:Orc E R) (a0:Branch):runF T (G N) live [] Tryz.f129 code (sp N) o0 (a0,())=m N a0:=by kernel_rfl
theorem G_ok (N:Nat):GamOK Tryz.prog (G N):=gam_ok (⟨impl_within.snd N,trivial⟩)
theorem snd (N:Nat):Sound Tryz.prog E 129 (sp N):=
 Mir.sound T_OK (G_ok N) mixed Tryz.func129 (c:=code) (by kernel_rfl) (by kernel_rfl) (sp N) (Nat.le_of_ble_eq_true (by kernel_rfl)) live [] (by
  rintro ⟨a0,_⟩ r h
  exact ⟨N,2,((run N _ a0).trans rfl).trans h⟩)
end impl_Branch_isFork
namespace impl_bit
noncomputable def code:Code:=Tryz.f106.body.getD .skip
abbrev live:Live:=[]
noncomputable def G (N:Nat):Ctx E:=gam []
theorem run (N:Nat) (o0:Orc E R) (a0:ByteArray) (a1:Int):runF T (G N) live [] Tryz.f106 code (sp N) o0 (a0,a1,())=m N a0 a1:=by kernel_rfl
theorem G_ok (N:Nat):GamOK Tryz.prog (G N):=gam_ok (trivial)
theorem snd (N:Nat):Sound Tryz.prog E 106 (sp N):=
 Mir.sound T_OK (G_ok N) mixed Tryz.func106 (c:=code) (by kernel_rfl) (by kernel_rfl) (sp N) (Nat.le_of_ble_eq_true (by kernel_rfl)) live [] (by
  rintro ⟨a0,a1,_⟩ r h
  exact ⟨N,2,((run N _ a0 a1).trans rfl).trans h⟩)
end impl_bit
namespace impl_Branch_pairs_1
noncomputable def code:Code:=Tryz.f131.body.getD .skip
abbrev live:Live:=[]
noncomputable def G (N:Nat):Ctx E:=gam [(106,[],impl_bit.sp N)]
theorem run (N:Nat) (o0:Orc E R) (a0:pairOf) (a1:Branch) (a2:Int):runF T (G N) live [] Tryz.f131 code (sp N) o0 (a0,a1,a2,())=m N a0 a1 a2:=by kernel_rfl
theorem G_ok (N:Nat):GamOK Tryz.prog (G N):=gam_ok (⟨impl_bit.snd N,trivial⟩)
theorem snd (N:Nat):Sound Tryz.prog E 131 (sp N):=
 Mir.sound T_OK (G_ok N) mixed Tryz.func131 (c:=code) (by kernel_rfl) (by kernel_rfl) (sp N) (Nat.le_of_ble_eq_true (by kernel_rfl)) live [] (by
  rintro ⟨a0,a1,a2,_⟩ r h
  exact ⟨N,2,((run N _ a0 a1 a2).trans rfl).trans h⟩)
end impl_Branch_pairs_1
namespace slices_IndexFunc_impl_pairOf_impl_pairOf__impl_Branch_pairs_1
noncomputable def code:Code:=Tryz.f107.body.getD .skip
abbrev live:Live:=[(2,[0,1,7,8])]
noncomputable def G (N:Nat):Ctx E:=gam [(131,[],impl_Branch_pairs_1.sp N)]
noncomputable def loop2:Code:=codeAt code [1,0,1,0]
noncomputable def body2:Code:=codeAt loop2 [0]
noncomputable def K2 (N:Nat) (o0:Orc E R):KT E R:=kAt T (G N) live [] o0 code [1,0,1,0] (kfin T Tryz.f107 (sp N))
noncomputable def St2 (a0:List pairOf) (a1_0:Branch) (a1_1:Int):(Int×Int)→St E
 | (v1,v2)=>{ ρ:=[(0,.c (.at (.ro 98 (.st 98) a0))),(1,.clo 131 [.at (.ptr 0 0),.at (.ptr 1 0)]),(7,.c (.at (.int .i64 v1))),(8,.c (.at (.int .i64 v2)))],H:=[(0,.rbx [.str a1_0.Key,.str a1_0.Value,.int .i64 a1_0.At,.ro 36 (.st 36) a1_0.Kids]),(1,.rbx [.int .i64 a1_1])],nx:=2,n:=19,pin:=[] }
theorem run (N:Nat) (o0:Orc E R) (a0:List pairOf) (a1_0:Branch) (a1_1:Int):runF T (G N) live [] Tryz.f107 code (sp N) o0 (a0,(a1_0,a1_1,()),())=m0 N a0 a1_0 a1_1 (fun a=>o0 loop2 (K2 N o0) (St2 a0 a1_0 a1_1 a)):=by kernel_rfl
theorem body2_0 (N:Nat) (o0:Orc E R) (o1:Orc E R) (q1:St E→Option R) (a0:List pairOf) (a1_0:Branch) (a1_1:Int) (v1:Int) (v2:Int):runA T (G N) live [] o1 body2 (St2 a0 a1_0 a1_1 (v1,v2)) (kloop [0,1,7,8] q1 (K2 N o0))=step2 N a0 a1_0 a1_1 (fun a=>q1 (St2 a0 a1_0 a1_1 a)) (v1,v2):=by kernel_rfl
theorem lp2_eq (N:Nat) (a0:List pairOf) (a1_0:Branch) (a1_1:Int) (a:Int×Int):(orc T (G N) live [] N 2) loop2 (K2 N (orc T (G N) live [] N 2)) (St2 a0 a1_0 a1_1 a)=lp2 N a0 a1_0 a1_1 a:=
 (orc_loop (b:=body2) (live:=[0,1,7,8]) (by kernel_rfl)).trans (iter_eq (St2 a0 a1_0 a1_1) _ _ (fun q1 a=>by
  have hc:=congrFun (congrFun (rfl:(step2 N a0 a1_0 a1_1)=(step2 N a0 a1_0 a1_1)) (fun a=>q1 (St2 a0 a1_0 a1_1 a))) a
  obtain ⟨u0,u1⟩:=a
  exact (body2_0 N (orc T (G N) live [] N 2) (orc T (G N) live [] N 1) q1 a0 a1_0 a1_1 u0 u1).trans hc) N a)
theorem G_ok (N:Nat):GamOK Tryz.prog (G N):=gam_ok (⟨impl_Branch_pairs_1.snd N,trivial⟩)
theorem snd (N:Nat):Sound Tryz.prog E 107 (sp N):=
 Mir.sound T_OK (G_ok N) mixed Tryz.func107 (c:=code) (by kernel_rfl) (by kernel_rfl) (sp N) (Nat.le_of_ble_eq_true (by kernel_rfl)) live [] (by
  rintro ⟨a0,⟨a1_0,a1_1,_⟩,_⟩ r h
  exact ⟨N,2,((run N _ a0 a1_0 a1_1).trans (congrArg (m0 N a0 a1_0 a1_1) (funext fun a=>lp2_eq N a0 a1_0 a1_1 a))).trans h⟩)
end slices_IndexFunc_impl_pairOf_impl_pairOf__impl_Branch_pairs_1
namespace slices_ContainsFunc_impl_pairOf_impl_pairOf__impl_Branch_pairs_1
noncomputable def code:Code:=Tryz.f130.body.getD .skip
abbrev live:Live:=[]
noncomputable def G (N:Nat):Ctx E:=gam [(107,[131],slices_IndexFunc_impl_pairOf_impl_pairOf__impl_Branch_pairs_1.sp N)]
theorem run (N:Nat) (o0:Orc E R) (a0:List pairOf) (a1_0:Branch) (a1_1:Int):runF T (G N) live [] Tryz.f130 code (sp N) o0 (a0,(a1_0,a1_1,()),())=m N a0 a1_0 a1_1:=by kernel_rfl
theorem G_ok (N:Nat):GamOK Tryz.prog (G N):=gam_ok (⟨slices_IndexFunc_impl_pairOf_impl_pairOf__impl_Branch_pairs_1.snd N,trivial⟩)
theorem snd (N:Nat):Sound Tryz.prog E 130 (sp N):=
 Mir.sound T_OK (G_ok N) mixed Tryz.func130 (c:=code) (by kernel_rfl) (by kernel_rfl) (sp N) (Nat.le_of_ble_eq_true (by kernel_rfl)) live [] (by
  rintro ⟨a0,⟨a1_0,a1_1,_⟩,_⟩ r h
  exact ⟨N,2,((run N _ a0 a1_0 a1_1).trans rfl).trans h⟩)
end slices_ContainsFunc_impl_pairOf_impl_pairOf__impl_Branch_pairs_1
namespace impl_sameAhead
noncomputable def code:Code:=Tryz.f133.body.getD .skip
abbrev live:Live:=[(2,[0,1,8,9])]
noncomputable def G (N:Nat):Ctx E:=gam [(106,[],impl_bit.sp N)]
noncomputable def loop2:Code:=codeAt code [1,0,1,0]
noncomputable def body2:Code:=codeAt loop2 [0]
noncomputable def K2 (N:Nat) (o0:Orc E R):KT E R:=kAt T (G N) live [] o0 code [1,0,1,0] (kfin T Tryz.f133 (sp N))
noncomputable def St2 (a0:ByteArray) (a1:ByteArray) (a2:Int):Int→St E
 | v3=>{ ρ:=[(0,.c (.at (.str a0))),(1,.c (.at (.str a1))),(8,.c (.at (.int .i64 a2))),(9,.c (.at (.int .i64 v3)))],H:=[],nx:=0,n:=20,pin:=[] }
theorem run (N:Nat) (o0:Orc E R) (a0:ByteArray) (a1:ByteArray) (a2:Int):runF T (G N) live [] Tryz.f133 code (sp N) o0 (a0,a1,a2,())=m0 N a0 a1 a2 (fun a=>o0 loop2 (K2 N o0) (St2 a0 a1 a2 a)):=by kernel_rfl
theorem body2_0 (N:Nat) (o0:Orc E R) (o1:Orc E R) (q1:St E→Option R) (a0:ByteArray) (a1:ByteArray) (a2:Int) (v3:Int):runA T (G N) live [] o1 body2 (St2 a0 a1 a2 v3) (kloop [0,1,8,9] q1 (K2 N o0))=step2 N a0 a1 a2 (fun a=>q1 (St2 a0 a1 a2 a)) v3:=by kernel_rfl
theorem lp2_eq (N:Nat) (a0:ByteArray) (a1:ByteArray) (a2:Int) (a:Int):(orc T (G N) live [] N 2) loop2 (K2 N (orc T (G N) live [] N 2)) (St2 a0 a1 a2 a)=lp2 N a0 a1 a2 a:=
 (orc_loop (b:=body2) (live:=[0,1,8,9]) (by kernel_rfl)).trans (iter_eq (St2 a0 a1 a2) _ _ (fun q1 a=>by
  have hc:=congrFun (congrFun (rfl:(step2 N a0 a1 a2)=(step2 N a0 a1 a2)) (fun a=>q1 (St2 a0 a1 a2 a))) a
  exact (body2_0 N (orc T (G N) live [] N 2) (orc T (G N) live [] N 1) q1 a0 a1 a2 a).trans hc) N a)
theorem G_ok (N:Nat):GamOK Tryz.prog (G N):=gam_ok (⟨impl_bit.snd N,trivial⟩)
theorem snd (N:Nat):Sound Tryz.prog E 133 (sp N):=
 Mir.sound T_OK (G_ok N) mixed Tryz.func133 (c:=code) (by kernel_rfl) (by kernel_rfl) (sp N) (Nat.le_of_ble_eq_true (by kernel_rfl)) live [] (by
  rintro ⟨a0,a1,a2,_⟩ r h
  exact ⟨N,2,((run N _ a0 a1 a2).trans (congrArg (m0 N a0 a1 a2) (funext fun a=>lp2_eq N a0 a1 a2 a))).trans h⟩)
end impl_sameAhead
namespace impl_Branch_pairs_2
noncomputable def code:Code:=Tryz.f132.body.getD .skip
abbrev live:Live:=[]
noncomputable def G (N:Nat):Ctx E:=gam [(133,[],impl_sameAhead.sp N)]
theorem run (N:Nat) (o0:Orc E R) (a0:pairOf) (a1:List pairOf) (a2:Branch):runF T (G N) live [] Tryz.f132 code (sp N) o0 (a0,a1,a2,())=m N a0 a1 a2:=by kernel_rfl
theorem G_ok (N:Nat):GamOK Tryz.prog (G N):=gam_ok (⟨impl_sameAhead.snd N,trivial⟩)
theorem snd (N:Nat):Sound Tryz.prog E 132 (sp N):=
 Mir.sound T_OK (G_ok N) mixed Tryz.func132 (c:=code) (by kernel_rfl) (by kernel_rfl) (sp N) (Nat.le_of_ble_eq_true (by kernel_rfl)) live [] (by
  rintro ⟨a0,a1,a2,_⟩ r h
  exact ⟨N,2,((run N _ a0 a1 a2).trans rfl).trans h⟩)
end impl_Branch_pairs_2
namespace slices_IndexFunc_impl_pairOf_impl_pairOf__impl_Branch_pairs_2
noncomputable def code:Code:=Tryz.f107.body.getD .skip
abbrev live:Live:=[(2,[0,1,7,8])]
noncomputable def G (N:Nat):Ctx E:=gam [(132,[],impl_Branch_pairs_2.sp N)]
noncomputable def loop2:Code:=codeAt code [1,0,1,0]
noncomputable def body2:Code:=codeAt loop2 [0]
noncomputable def K2 (N:Nat) (o0:Orc E R):KT E R:=kAt T (G N) live [] o0 code [1,0,1,0] (kfin T Tryz.f107 (sp N))
noncomputable def St2 (a0:List pairOf) (a1_0:List pairOf) (a1_1:Branch):(Int×Int)→St E
 | (v1,v2)=>{ ρ:=[(0,.c (.at (.ro 98 (.st 98) a0))),(1,.clo 132 [.at (.ptr 0 0),.at (.ptr 1 0)]),(7,.c (.at (.int .i64 v1))),(8,.c (.at (.int .i64 v2)))],H:=[(0,.rbx [.ro 98 (.st 98) a1_0]),(1,.rbx [.str a1_1.Key,.str a1_1.Value,.int .i64 a1_1.At,.ro 36 (.st 36) a1_1.Kids])],nx:=2,n:=19,pin:=[] }
theorem run (N:Nat) (o0:Orc E R) (a0:List pairOf) (a1_0:List pairOf) (a1_1:Branch):runF T (G N) live [] Tryz.f107 code (sp N) o0 (a0,(a1_0,a1_1,()),())=m0 N a0 a1_0 a1_1 (fun a=>o0 loop2 (K2 N o0) (St2 a0 a1_0 a1_1 a)):=by kernel_rfl
theorem body2_0 (N:Nat) (o0:Orc E R) (o1:Orc E R) (q1:St E→Option R) (a0:List pairOf) (a1_0:List pairOf) (a1_1:Branch) (v1:Int) (v2:Int):runA T (G N) live [] o1 body2 (St2 a0 a1_0 a1_1 (v1,v2)) (kloop [0,1,7,8] q1 (K2 N o0))=step2 N a0 a1_0 a1_1 (fun a=>q1 (St2 a0 a1_0 a1_1 a)) (v1,v2):=by kernel_rfl
theorem lp2_eq (N:Nat) (a0:List pairOf) (a1_0:List pairOf) (a1_1:Branch) (a:Int×Int):(orc T (G N) live [] N 2) loop2 (K2 N (orc T (G N) live [] N 2)) (St2 a0 a1_0 a1_1 a)=lp2 N a0 a1_0 a1_1 a:=
 (orc_loop (b:=body2) (live:=[0,1,7,8]) (by kernel_rfl)).trans (iter_eq (St2 a0 a1_0 a1_1) _ _ (fun q1 a=>by
  have hc:=congrFun (congrFun (rfl:(step2 N a0 a1_0 a1_1)=(step2 N a0 a1_0 a1_1)) (fun a=>q1 (St2 a0 a1_0 a1_1 a))) a
  obtain ⟨u0,u1⟩:=a
  exact (body2_0 N (orc T (G N) live [] N 2) (orc T (G N) live [] N 1) q1 a0 a1_0 a1_1 u0 u1).trans hc) N a)
theorem G_ok (N:Nat):GamOK Tryz.prog (G N):=gam_ok (⟨impl_Branch_pairs_2.snd N,trivial⟩)
theorem snd (N:Nat):Sound Tryz.prog E 107 (sp N):=
 Mir.sound T_OK (G_ok N) mixed Tryz.func107 (c:=code) (by kernel_rfl) (by kernel_rfl) (sp N) (Nat.le_of_ble_eq_true (by kernel_rfl)) live [] (by
  rintro ⟨a0,⟨a1_0,a1_1,_⟩,_⟩ r h
  exact ⟨N,2,((run N _ a0 a1_0 a1_1).trans (congrArg (m0 N a0 a1_0 a1_1) (funext fun a=>lp2_eq N a0 a1_0 a1_1 a))).trans h⟩)
end slices_IndexFunc_impl_pairOf_impl_pairOf__impl_Branch_pairs_2
namespace slices_ContainsFunc_impl_pairOf_impl_pairOf__impl_Branch_pairs_2
noncomputable def code:Code:=Tryz.f130.body.getD .skip
abbrev live:Live:=[]
noncomputable def G (N:Nat):Ctx E:=gam [(107,[132],slices_IndexFunc_impl_pairOf_impl_pairOf__impl_Branch_pairs_2.sp N)]
theorem run (N:Nat) (o0:Orc E R) (a0:List pairOf) (a1_0:List pairOf) (a1_1:Branch):runF T (G N) live [] Tryz.f130 code (sp N) o0 (a0,(a1_0,a1_1,()),())=m N a0 a1_0 a1_1:=by kernel_rfl
theorem G_ok (N:Nat):GamOK Tryz.prog (G N):=gam_ok (⟨slices_IndexFunc_impl_pairOf_impl_pairOf__impl_Branch_pairs_2.snd N,trivial⟩)
theorem snd (N:Nat):Sound Tryz.prog E 130 (sp N):=
 Mir.sound T_OK (G_ok N) mixed Tryz.func130 (c:=code) (by kernel_rfl) (by kernel_rfl) (sp N) (Nat.le_of_ble_eq_true (by kernel_rfl)) live [] (by
  rintro ⟨a0,⟨a1_0,a1_1,_⟩,_⟩ r h
  exact ⟨N,2,((run N _ a0 a1_0 a1_1).trans rfl).trans h⟩)
end slices_ContainsFunc_impl_pairOf_impl_pairOf__impl_Branch_pairs_2
namespace impl_Branch_pairs
noncomputable def code:Code:=Tryz.f95.body.getD .skip
abbrev live:Live:=[(8,[2,3,8,44,45,46])]
noncomputable def G (N:Nat) (slf:Branch→Int→Int→Option R):Ctx E:=gam [(128,[],impl_Branch_isLeaf.sp N),(70,[],impl_hash.sp N),(129,[],impl_Branch_isFork.sp N),(95,[],spf slf),(130,[131],slices_ContainsFunc_impl_pairOf_impl_pairOf__impl_Branch_pairs_1.sp N),(130,[132],slices_ContainsFunc_impl_pairOf_impl_pairOf__impl_Branch_pairs_2.sp N)]
noncomputable def loop8:Code:=codeAt code [1,1,1,1,0,1,0]
noncomputable def body8:Code:=codeAt loop8 [0]
noncomputable def K8 (N:Nat) (slf:Branch→Int→Int→Option R) (o0:Orc E R):KT E R:=kAt T (G N slf) live [] o0 code [1,1,1,1,0,1,0] (kfin T Tryz.f95 (spf (mb N slf)))
noncomputable def St8 (slf:Branch→Int→Int→Option R) (a0:Branch) (a1:Int) (a2:Int):(Int×Int×Int×(List pairOf))→St E
 | (v1,v2,v3,v8)=>{ ρ:=[(2,.c (.at (.ptr 0 0))),(3,.c (.at (.ptr 1 0))),(8,.c (.at (.ptr 2 0))),(44,.c (.at (.ro 36 (.st 36) a0.Kids))),(45,.c (.at (.int .i64 v1))),(46,.c (.at (.int .i64 v2)))],H:=[(0,.box 3 [.int .i64 v3]),(1,.box 36 [.str a0.Key,.str a0.Value,.int .i64 a0.At,.ro 36 (.st 36) a0.Kids]),(2,.box 91 [.own 3]),(3,.row 98 (.st 98) v8 false)],nx:=4,n:=75,pin:=[2] }
theorem run (N:Nat) (o0:Orc E R) (slf:Branch→Int→Int→Option R) (a0:Branch) (a1:Int) (a2:Int):runF T (G N slf) live [] Tryz.f95 code (spf (mb N slf)) o0 (a0,a1,a2,())=m0 N slf a0 a1 a2 (fun a=>o0 loop8 (K8 N slf o0) (St8 slf a0 a1 a2 a)):=by kernel_rfl
theorem body8_0 (N:Nat) (o0:Orc E R) (o1:Orc E R) (q1:St E→Option R) (slf:Branch→Int→Int→Option R) (a0:Branch) (a1:Int) (a2:Int) (v1:Int) (v2:Int) (v3:Int) (v8:List pairOf):runA T (G N slf) live [] o1 body8 (St8 slf a0 a1 a2 (v1,v2,v3,v8)) (kloop [2,3,8,44,45,46] q1 (K8 N slf o0))=step8 N slf a0 a1 a2 (fun a=>q1 (St8 slf a0 a1 a2 a)) (v1,v2,v3,v8):=by kernel_rfl
theorem lp8_eq (N:Nat) (slf:Branch→Int→Int→Option R) (a0:Branch) (a1:Int) (a2:Int) (a:Int×Int×Int×(List pairOf)):(orc T (G N slf) live [] N 2) loop8 (K8 N slf (orc T (G N slf) live [] N 2)) (St8 slf a0 a1 a2 a)=lp8 N slf a0 a1 a2 a:=
 (orc_loop (b:=body8) (live:=[2,3,8,44,45,46]) (by kernel_rfl)).trans (iter_eq (St8 slf a0 a1 a2) _ _ (fun q1 a=>by
  have hc:=congrFun (congrFun (rfl:(step8 N slf a0 a1 a2)=(step8 N slf a0 a1 a2)) (fun a=>q1 (St8 slf a0 a1 a2 a))) a
  obtain ⟨u0,u1,u2,u3⟩:=a
  exact (body8_0 N (orc T (G N slf) live [] N 2) (orc T (G N slf) live [] N 1) q1 slf a0 a1 a2 u0 u1 u2 u3).trans hc) N a)
theorem G_ok (N:Nat) (slf:Branch→Int→Int→Option R) (hs:Sound Tryz.prog E 95 (spf slf)):GamOK Tryz.prog (G N slf):=gam_ok (⟨impl_Branch_isLeaf.snd N,impl_hash.snd N,impl_Branch_isFork.snd N,hs,slices_ContainsFunc_impl_pairOf_impl_pairOf__impl_Branch_pairs_1.snd N,slices_ContainsFunc_impl_pairOf_impl_pairOf__impl_Branch_pairs_2.snd N,trivial⟩)
theorem sndF (N:Nat):∀n,Sound Tryz.prog E 95 (spf (mF N n))
 | 0=>sound_none Tryz.func95 (c:=code) (by kernel_rfl) (by kernel_rfl) (spf (mF N 0)) (fun _=>rfl)
 | n+1=>by
  have hr:=fun (a0:Branch) (a1:Int) (a2:Int)=>(run N (orc T (G N (mF N n)) live [] N 2) (mF N n) a0 a1 a2).trans (congrArg (m0 N (mF N n) a0 a1 a2) (funext fun a=>lp8_eq N (mF N n) a0 a1 a2 a))
  exact Mir.sound T_OK (G_ok N (mF N n) (sndF N n)) mixed Tryz.func95 (c:=code) (by kernel_rfl) (by kernel_rfl) (spf (mF N (n+1))) (Nat.le_of_ble_eq_true (by kernel_rfl)) live [] (by
   rintro ⟨a0,a1,a2,_⟩ r h
   exact ⟨N,2,(hr a0 a1 a2).trans h⟩)
theorem snd (N:Nat):Sound Tryz.prog E 95 (sp N):=sndF N N
end impl_Branch_pairs
namespace impl_mapPairs
noncomputable def code:Code:=Tryz.f61.body.getD .skip
abbrev live:Live:=[]
noncomputable def G (N:Nat):Ctx E:=gam [(94,[],impl_Branch_isEmpty.sp N),(95,[],impl_Branch_pairs.sp N)]
theorem run (N:Nat) (o0:Orc E R) (a0:Branch):runF T (G N) live [] Tryz.f61 code (sp N) o0 (a0,())=m N a0:=by kernel_rfl
theorem G_ok (N:Nat):GamOK Tryz.prog (G N):=gam_ok (⟨impl_Branch_isEmpty.snd N,impl_Branch_pairs.snd N,trivial⟩)
theorem snd (N:Nat):Sound Tryz.prog E 61 (sp N):=
 Mir.sound T_OK (G_ok N) mixed Tryz.func61 (c:=code) (by kernel_rfl) (by kernel_rfl) (sp N) (Nat.le_of_ble_eq_true (by kernel_rfl)) live [] (by
  rintro ⟨a0,_⟩ r h
  exact ⟨N,2,((run N _ a0).trans rfl).trans h⟩)
end impl_mapPairs
namespace impl_MapOK
noncomputable def code:Code:=Tryz.f32.body.getD .skip
abbrev live:Live:=[]
noncomputable def G (N:Nat):Ctx E:=gam [(61,[],impl_mapPairs.sp N)]
theorem run (N:Nat) (o0:Orc E R) (a0:Branch):runF T (G N) live [] Tryz.f32 code (sp N) o0 (a0,())=m N a0:=by kernel_rfl
theorem G_ok (N:Nat):GamOK Tryz.prog (G N):=gam_ok (⟨impl_mapPairs.snd N,trivial⟩)
theorem snd (N:Nat):Sound Tryz.prog E 32 (sp N):=
 Mir.sound T_OK (G_ok N) mixed Tryz.func32 (c:=code) (by kernel_rfl) (by kernel_rfl) (sp N) (Nat.le_of_ble_eq_true (by kernel_rfl)) live [] (by
  rintro ⟨a0,_⟩ r h
  exact ⟨N,2,((run N _ a0).trans rfl).trans h⟩)
end impl_MapOK
namespace impl_isShort
noncomputable def code:Code:=Tryz.f33.body.getD .skip
abbrev live:Live:=[]
noncomputable def G (N:Nat):Ctx E:=gam [(62,[],impl_within.sp N)]
theorem run (N:Nat) (o0:Orc E R) (a0:Int):runF T (G N) live [] Tryz.f33 code (sp N) o0 (a0,())=m N a0:=by kernel_rfl
theorem G_ok (N:Nat):GamOK Tryz.prog (G N):=gam_ok (⟨impl_within.snd N,trivial⟩)
theorem snd (N:Nat):Sound Tryz.prog E 33 (sp N):=
 Mir.sound T_OK (G_ok N) mixed Tryz.func33 (c:=code) (by kernel_rfl) (by kernel_rfl) (sp N) (Nat.le_of_ble_eq_true (by kernel_rfl)) live [] (by
  rintro ⟨a0,_⟩ r h
  exact ⟨N,2,((run N _ a0).trans rfl).trans h⟩)
end impl_isShort
namespace impl_replyOK
noncomputable def code:Code:=Tryz.f34.body.getD .skip
abbrev live:Live:=[]
noncomputable def G (N:Nat):Ctx E:=gam [(62,[],impl_within.sp N),(48,[],impl_isValue.sp N)]
theorem run (N:Nat) (o0:Orc E R) (a0:Reply):runF T (G N) live [] Tryz.f34 code (sp N) o0 (a0,())=m N a0:=by kernel_rfl
theorem G_ok (N:Nat):GamOK Tryz.prog (G N):=gam_ok (⟨impl_within.snd N,impl_isValue.snd N,trivial⟩)
theorem snd (N:Nat):Sound Tryz.prog E 34 (sp N):=
 Mir.sound T_OK (G_ok N) mixed Tryz.func34 (c:=code) (by kernel_rfl) (by kernel_rfl) (sp N) (Nat.le_of_ble_eq_true (by kernel_rfl)) live [] (by
  rintro ⟨a0,_⟩ r h
  exact ⟨N,2,((run N _ a0).trans rfl).trans h⟩)
end impl_replyOK
namespace impl_LedgerOK
noncomputable def code:Code:=Tryz.f13.body.getD .skip
abbrev live:Live:=[(4,[1,28,29,30])]
noncomputable def G (N:Nat):Ctx E:=gam [(31,[],impl_isHash.sp N),(32,[],impl_MapOK.sp N),(33,[],impl_isShort.sp N),(34,[],impl_replyOK.sp N)]
noncomputable def loop4:Code:=codeAt code [1,1,0,1,0]
noncomputable def body4:Code:=codeAt loop4 [0]
noncomputable def K4 (N:Nat) (o0:Orc E R):KT E R:=kAt T (G N) live [] o0 code [1,1,0,1,0] (kfin T Tryz.f13 (sp N))
noncomputable def St4 (a0:Ledger):(Int×Int)→St E
 | (v1,v2)=>{ ρ:=[(1,.c (.at (.ptr 0 0))),(28,.c (.at (.ro 72 (.st 72) a0.Sessions))),(29,.c (.at (.int .i64 v1))),(30,.c (.at (.int .i64 v2)))],H:=[(0,.box 39 [.ro 9 .str a0.Leaves,.str a0.Map.Key,.str a0.Map.Value,.int .i64 a0.Map.At,.ro 36 (.st 36) a0.Map.Kids,.ro 72 (.st 72) a0.Sessions])],nx:=1,n:=68,pin:=[] }
theorem run (N:Nat) (o0:Orc E R) (a0:Ledger):runF T (G N) live [] Tryz.f13 code (sp N) o0 (a0,())=m0 N a0 (fun a=>o0 loop4 (K4 N o0) (St4 a0 a)):=by kernel_rfl
theorem body4_0 (N:Nat) (o0:Orc E R) (o1:Orc E R) (q1:St E→Option R) (a0:Ledger) (v1:Int) (v2:Int):runA T (G N) live [] o1 body4 (St4 a0 (v1,v2)) (kloop [1,28,29,30] q1 (K4 N o0))=step4 N a0 (fun a=>q1 (St4 a0 a)) (v1,v2):=by kernel_rfl
theorem lp4_eq (N:Nat) (a0:Ledger) (a:Int×Int):(orc T (G N) live [] N 2) loop4 (K4 N (orc T (G N) live [] N 2)) (St4 a0 a)=lp4 N a0 a:=
 (orc_loop (b:=body4) (live:=[1,28,29,30]) (by kernel_rfl)).trans (iter_eq (St4 a0) _ _ (fun q1 a=>by
  have hc:=congrFun (congrFun (rfl:(step4 N a0)=(step4 N a0)) (fun a=>q1 (St4 a0 a))) a
  obtain ⟨u0,u1⟩:=a
  exact (body4_0 N (orc T (G N) live [] N 2) (orc T (G N) live [] N 1) q1 a0 u0 u1).trans hc) N a)
theorem G_ok (N:Nat):GamOK Tryz.prog (G N):=gam_ok (⟨impl_isHash.snd N,impl_MapOK.snd N,impl_isShort.snd N,impl_replyOK.snd N,trivial⟩)
theorem snd (N:Nat):Sound Tryz.prog E 13 (sp N):=
 Mir.sound T_OK (G_ok N) mixed Tryz.func13 (c:=code) (by kernel_rfl) (by kernel_rfl) (sp N) (Nat.le_of_ble_eq_true (by kernel_rfl)) live [] (by
  rintro ⟨a0,_⟩ r h
  exact ⟨N,2,((run N _ a0).trans (congrArg (m0 N a0) (funext fun a=>lp4_eq N a0 a))).trans h⟩)
end impl_LedgerOK
namespace slices_Clone_string_string
noncomputable def code:Code:=Tryz.f63.body.getD .skip
abbrev live:Live:=[]
noncomputable def G (N:Nat):Ctx E:=gam []
theorem run (N:Nat) (o0:Orc E R) (a0:List ByteArray):runF T (G N) live [] Tryz.f63 code (sp N) o0 (a0,())=m N a0:=by kernel_rfl
theorem G_ok (N:Nat):GamOK Tryz.prog (G N):=gam_ok (trivial)
theorem snd (N:Nat):Sound Tryz.prog E 63 (sp N):=
 Mir.sound T_OK (G_ok N) mixed Tryz.func63 (c:=code) (by kernel_rfl) (by kernel_rfl) (sp N) (Nat.le_of_ble_eq_true (by kernel_rfl)) live [] (by
  rintro ⟨a0,_⟩ r h
  exact ⟨N,2,((run N _ a0).trans rfl).trans h⟩)
end slices_Clone_string_string
namespace slices_Clone_impl_Session_impl_Session
noncomputable def code:Code:=Tryz.f64.body.getD .skip
abbrev live:Live:=[]
noncomputable def G (N:Nat):Ctx E:=gam []
theorem run (N:Nat) (o0:Orc E R) (a0:List Session):runF T (G N) live [] Tryz.f64 code (sp N) o0 (a0,())=m N a0:=by kernel_rfl
theorem G_ok (N:Nat):GamOK Tryz.prog (G N):=gam_ok (trivial)
theorem snd (N:Nat):Sound Tryz.prog E 64 (sp N):=
 Mir.sound T_OK (G_ok N) mixed Tryz.func64 (c:=code) (by kernel_rfl) (by kernel_rfl) (sp N) (Nat.le_of_ble_eq_true (by kernel_rfl)) live [] (by
  rintro ⟨a0,_⟩ r h
  exact ⟨N,2,((run N _ a0).trans rfl).trans h⟩)
end slices_Clone_impl_Session_impl_Session
namespace impl_booksOf
noncomputable def code:Code:=Tryz.f35.body.getD .skip
abbrev live:Live:=[]
noncomputable def G (N:Nat):Ctx E:=gam [(61,[],impl_mapPairs.sp N),(63,[],slices_Clone_string_string.sp N),(64,[],slices_Clone_impl_Session_impl_Session.sp N)]
theorem run (N:Nat) (o0:Orc E R) (a0:Ledger):runF T (G N) live [] Tryz.f35 code (sp N) o0 (a0,())=m N a0:=by kernel_rfl
theorem G_ok (N:Nat):GamOK Tryz.prog (G N):=gam_ok (⟨impl_mapPairs.snd N,slices_Clone_string_string.snd N,slices_Clone_impl_Session_impl_Session.snd N,trivial⟩)
theorem snd (N:Nat):Sound Tryz.prog E 35 (sp N):=
 Mir.sound T_OK (G_ok N) mixed Tryz.func35 (c:=code) (by kernel_rfl) (by kernel_rfl) (sp N) (Nat.le_of_ble_eq_true (by kernel_rfl)) live [] (by
  rintro ⟨a0,_⟩ r h
  exact ⟨N,2,((run N _ a0).trans rfl).trans h⟩)
end impl_booksOf
namespace impl_counted
noncomputable def code:Code:=Tryz.f58.body.getD .skip
abbrev live:Live:=[]
noncomputable def G (N:Nat):Ctx E:=gam [(57,[],impl_number.sp N)]
theorem run (N:Nat) (o0:Orc E R) (a0:ByteArray):runF T (G N) live [] Tryz.f58 code (sp N) o0 (a0,())=m N a0:=by kernel_rfl
theorem G_ok (N:Nat):GamOK Tryz.prog (G N):=gam_ok (⟨impl_number.snd N,trivial⟩)
theorem snd (N:Nat):Sound Tryz.prog E 58 (sp N):=
 Mir.sound T_OK (G_ok N) mixed Tryz.func58 (c:=code) (by kernel_rfl) (by kernel_rfl) (sp N) (Nat.le_of_ble_eq_true (by kernel_rfl)) live [] (by
  rintro ⟨a0,_⟩ r h
  exact ⟨N,2,((run N _ a0).trans rfl).trans h⟩)
end impl_counted
namespace impl_snapshot
noncomputable def code:Code:=Tryz.f30.body.getD .skip
abbrev live:Live:=[(16,[4,70,71,72]),(10,[3,4,43,44,45]),(4,[3,4,22,23,24])]
noncomputable def G (N:Nat):Ctx E:=gam [(35,[],impl_booksOf.sp N),(57,[],impl_number.sp N),(58,[],impl_counted.sp N)]
noncomputable def loop4:Code:=codeAt code [1,1,1,0,1,0]
noncomputable def body4:Code:=codeAt loop4 [0]
noncomputable def loop10:Code:=codeAt code [1,1,1,1,1,0,1,0]
noncomputable def body10:Code:=codeAt loop10 [0]
noncomputable def loop16:Code:=codeAt code [1,1,1,1,1,1,1,0,1,0]
noncomputable def body16:Code:=codeAt loop16 [0]
noncomputable def K4 (N:Nat) (o0:Orc E R):KT E R:=kAt T (G N) live [] o0 code [1,1,1,0,1,0] (kfin T Tryz.f30 (sp N))
noncomputable def St4 (a0:Ledger):(ByteArray×Int×Int×(List ByteArray)×(List pairOf)×(List Session))→St E
 | (v0,v1,v2,v3,v4,v5)=>{ ρ:=[(3,.c (.at (.ptr 0 0))),(4,.c (.at (.str v0))),(22,.c (.at (.own 1))),(23,.c (.at (.int .i64 v1))),(24,.c (.at (.int .i64 v2)))],H:=[(0,.box 93 [.own 1,.own 2,.own 3]),(1,.row 9 .str v3 false),(2,.row 98 (.st 98) v4 false),(3,.row 72 (.st 72) v5 false)],nx:=4,n:=102,pin:=[] }
noncomputable def K10 (N:Nat) (o0:Orc E R):KT E R:=kAt T (G N) live [] o0 code [1,1,1,1,1,0,1,0] (kfin T Tryz.f30 (sp N))
noncomputable def St10 (a0:Ledger):(ByteArray×Int×Int×(List ByteArray)×(List pairOf)×(List Session))→St E
 | (v0,v1,v2,v3,v4,v5)=>{ ρ:=[(3,.c (.at (.ptr 0 0))),(4,.c (.at (.str v0))),(43,.c (.at (.own 2))),(44,.c (.at (.int .i64 v1))),(45,.c (.at (.int .i64 v2)))],H:=[(0,.box 93 [.own 1,.own 2,.own 3]),(1,.row 9 .str v3 false),(2,.row 98 (.st 98) v4 false),(3,.row 72 (.st 72) v5 false)],nx:=4,n:=102,pin:=[] }
noncomputable def K16 (N:Nat) (o0:Orc E R):KT E R:=kAt T (G N) live [] o0 code [1,1,1,1,1,1,1,0,1,0] (kfin T Tryz.f30 (sp N))
noncomputable def St16 (a0:Ledger):(ByteArray×Int×Int×(List Session))→St E
 | (v0,v1,v2,v3)=>{ ρ:=[(4,.c (.at (.str v0))),(70,.c (.at (.own 0))),(71,.c (.at (.int .i64 v1))),(72,.c (.at (.int .i64 v2)))],H:=[(0,.row 72 (.st 72) v3 false)],nx:=1,n:=102,pin:=[] }
theorem run (N:Nat) (o0:Orc E R) (a0:Ledger):runF T (G N) live [] Tryz.f30 code (sp N) o0 (a0,())=m0 N a0 (fun a=>o0 loop4 (K4 N o0) (St4 a0 a)):=by kernel_rfl
theorem body4_0 (N:Nat) (o0:Orc E R) (o1:Orc E R) (q1:St E→Option R) (a0:Ledger) (v0:ByteArray) (v1:Int) (v2:Int) (v3:List ByteArray) (v4:List pairOf) (v5:List Session):runA T (G N) live [] o1 body4 (St4 a0 (v0,v1,v2,v3,v4,v5)) (kloop [3,4,22,23,24] q1 (K4 N o0))=step4 N a0 (fun a=>o0 loop10 (K10 N o0) (St10 a0 a)) (fun a=>q1 (St4 a0 a)) (v0,v1,v2,v3,v4,v5):=by kernel_rfl
theorem body10_0 (N:Nat) (o0:Orc E R) (o1:Orc E R) (q1:St E→Option R) (a0:Ledger) (v0:ByteArray) (v1:Int) (v2:Int) (v3:List ByteArray) (v4:List pairOf) (v5:List Session):runA T (G N) live [] o1 body10 (St10 a0 (v0,v1,v2,v3,v4,v5)) (kloop [3,4,43,44,45] q1 (K10 N o0))=step10 N a0 (fun a=>o0 loop16 (K16 N o0) (St16 a0 a)) (fun a=>q1 (St10 a0 a)) (v0,v1,v2,v3,v4,v5):=by kernel_rfl
theorem body16_0 (N:Nat) (o0:Orc E R) (o1:Orc E R) (q1:St E→Option R) (a0:Ledger) (v0:ByteArray) (v1:Int) (v2:Int) (v3:List Session):runA T (G N) live [] o1 body16 (St16 a0 (v0,v1,v2,v3)) (kloop [4,70,71,72] q1 (K16 N o0))=step16 N a0 (fun a=>q1 (St16 a0 a)) (v0,v1,v2,v3):=by kernel_rfl
theorem lp16_eq (N:Nat) (a0:Ledger) (a:ByteArray×Int×Int×(List Session)):(orc T (G N) live [] N 2) loop16 (K16 N (orc T (G N) live [] N 2)) (St16 a0 a)=lp16 N a0 a:=
 (orc_loop (b:=body16) (live:=[4,70,71,72]) (by kernel_rfl)).trans (iter_eq (St16 a0) _ _ (fun q1 a=>by
  have hc:=congrFun (congrFun (rfl:(step16 N a0)=(step16 N a0)) (fun a=>q1 (St16 a0 a))) a
  obtain ⟨u0,u1,u2,u3⟩:=a
  exact (body16_0 N (orc T (G N) live [] N 2) (orc T (G N) live [] N 1) q1 a0 u0 u1 u2 u3).trans hc) N a)
theorem lp10_eq (N:Nat) (a0:Ledger) (a:ByteArray×Int×Int×(List ByteArray)×(List pairOf)×(List Session)):(orc T (G N) live [] N 2) loop10 (K10 N (orc T (G N) live [] N 2)) (St10 a0 a)=lp10 N a0 a:=
 (orc_loop (b:=body10) (live:=[3,4,43,44,45]) (by kernel_rfl)).trans (iter_eq (St10 a0) _ _ (fun q1 a=>by
  have hc:=congrFun (congrFun (congrArg (step10 N a0) (funext fun a=>lp16_eq N a0 a)) (fun a=>q1 (St10 a0 a))) a
  obtain ⟨u0,u1,u2,u3,u4,u5⟩:=a
  exact (body10_0 N (orc T (G N) live [] N 2) (orc T (G N) live [] N 1) q1 a0 u0 u1 u2 u3 u4 u5).trans hc) N a)
theorem lp4_eq (N:Nat) (a0:Ledger) (a:ByteArray×Int×Int×(List ByteArray)×(List pairOf)×(List Session)):(orc T (G N) live [] N 2) loop4 (K4 N (orc T (G N) live [] N 2)) (St4 a0 a)=lp4 N a0 a:=
 (orc_loop (b:=body4) (live:=[3,4,22,23,24]) (by kernel_rfl)).trans (iter_eq (St4 a0) _ _ (fun q1 a=>by
  have hc:=congrFun (congrFun (congrArg (step4 N a0) (funext fun a=>lp10_eq N a0 a)) (fun a=>q1 (St4 a0 a))) a
  obtain ⟨u0,u1,u2,u3,u4,u5⟩:=a
  exact (body4_0 N (orc T (G N) live [] N 2) (orc T (G N) live [] N 1) q1 a0 u0 u1 u2 u3 u4 u5).trans hc) N a)
theorem G_ok (N:Nat):GamOK Tryz.prog (G N):=gam_ok (⟨impl_booksOf.snd N,impl_number.snd N,impl_counted.snd N,trivial⟩)
theorem snd (N:Nat):Sound Tryz.prog E 30 (sp N):=
 Mir.sound T_OK (G_ok N) mixed Tryz.func30 (c:=code) (by kernel_rfl) (by kernel_rfl) (sp N) (Nat.le_of_ble_eq_true (by kernel_rfl)) live [] (by
  rintro ⟨a0,_⟩ r h
  exact ⟨N,2,((run N _ a0).trans (congrArg (m0 N a0) (funext fun a=>lp4_eq N a0 a))).trans h⟩)
end impl_snapshot
namespace impl_SnapshotBytes
noncomputable def code:Code:=Tryz.f16.body.getD .skip
abbrev live:Live:=[]
noncomputable def G (N:Nat):Ctx E:=gam [(13,[],impl_LedgerOK.sp N),(30,[],impl_snapshot.sp N)]
theorem run (N:Nat) (o0:Orc E R) (a0:Ledger):runF T (G N) live [] Tryz.f16 code (sp N) o0 (a0,())=m N a0:=by kernel_rfl
theorem G_ok (N:Nat):GamOK Tryz.prog (G N):=gam_ok (⟨impl_LedgerOK.snd N,impl_snapshot.snd N,trivial⟩)
theorem snd (N:Nat):Sound Tryz.prog E 16 (sp N):=
 Mir.sound T_OK (G_ok N) mixed Tryz.func16 (c:=code) (by kernel_rfl) (by kernel_rfl) (sp N) (Nat.le_of_ble_eq_true (by kernel_rfl)) live [] (by
  rintro ⟨a0,_⟩ r h
  exact ⟨N,2,((run N _ a0).trans rfl).trans h⟩)
end impl_SnapshotBytes
namespace spec_l06Hashes
noncomputable def code:Code:=Tryz.f73.body.getD .skip
abbrev live:Live:=[(4,[0,3])]
noncomputable def G (N:Nat):Ctx E:=gam []
noncomputable def loop4:Code:=codeAt code [1,1,0,1,0]
noncomputable def body4:Code:=codeAt loop4 [0]
noncomputable def K4 (N:Nat) (o0:Orc E R):KT E R:=kAt T (G N) live [] o0 code [1,1,0,1,0] (kfin T Tryz.f73 (sp N))
noncomputable def St4 (a0:List ByteArray):Int→St E
 | v1=>{ ρ:=[(0,.c (.at (.ro 9 .str a0))),(3,.c (.at (.int .i64 v1)))],H:=[],nx:=0,n:=19,pin:=[] }
theorem run (N:Nat) (o0:Orc E R) (a0:List ByteArray):runF T (G N) live [] Tryz.f73 code (sp N) o0 (a0,())=m0 N a0 (fun a=>o0 loop4 (K4 N o0) (St4 a0 a)):=by kernel_rfl
theorem body4_0 (N:Nat) (o0:Orc E R) (o1:Orc E R) (q1:St E→Option R) (a0:List ByteArray) (v1:Int):runA T (G N) live [] o1 body4 (St4 a0 v1) (kloop [0,3] q1 (K4 N o0))=step4 N a0 (fun a=>q1 (St4 a0 a)) v1:=by kernel_rfl
theorem lp4_eq (N:Nat) (a0:List ByteArray) (a:Int):(orc T (G N) live [] N 2) loop4 (K4 N (orc T (G N) live [] N 2)) (St4 a0 a)=lp4 N a0 a:=
 (orc_loop (b:=body4) (live:=[0,3]) (by kernel_rfl)).trans (iter_eq (St4 a0) _ _ (fun q1 a=>by
  have hc:=congrFun (congrFun (rfl:(step4 N a0)=(step4 N a0)) (fun a=>q1 (St4 a0 a))) a
  exact (body4_0 N (orc T (G N) live [] N 2) (orc T (G N) live [] N 1) q1 a0 a).trans hc) N a)
theorem G_ok (N:Nat):GamOK Tryz.prog (G N):=gam_ok (trivial)
theorem snd (N:Nat):Sound Tryz.prog E 73 (sp N):=
 Mir.sound T_OK (G_ok N) mixed Tryz.func73 (c:=code) (by kernel_rfl) (by kernel_rfl) (sp N) (Nat.le_of_ble_eq_true (by kernel_rfl)) live [] (by
  rintro ⟨a0,_⟩ r h
  exact ⟨N,2,((run N _ a0).trans (congrArg (m0 N a0) (funext fun a=>lp4_eq N a0 a))).trans h⟩)
end spec_l06Hashes
end Mir.Y
