/- A snapshot is read back. -/
import Derived.Test.YtmjmhkpkmejbnaaGreatQSY7
namespace Mir.Y
set_option linter.unusedVariables false
set_option linter.unusedSimpArgs false
open Go
set_option linter.unusedSectionVars false
variable [UU]
theorem bytes_str (l:List Int):bytesOf (strOf l)=l.map (fun n=>((UInt8.ofNat n.toNat).toNat:Int)):=by simp [bytesOf,strOf]
theorem take_str (l:List Int) (k:Nat):(strOf l).extract 0 k=strOf (l.take k):=bytesOf_inj (by rw [bytesOf_extract,bytes_str,bytes_str,List.drop_zero,Nat.sub_zero,List.map_take])
theorem drop_str (l:List Int) (k:Nat):(strOf l).extract k (strOf l).size=strOf (l.drop k):=bytesOf_inj (by
 rw [bytesOf_extract,bytes_str,bytes_str,strOf_size,List.map_drop,List.take_of_length_le (by simp)])
@[reducible] def rdq (xs:List Int):reader:=reader.mk (strOf xs) false
theorem takeR (N:Nat) (a b:List Int):impl_reader_take_.m N (rdq (a++b)) (a.length:Int)=some (strOf a,rdq b):=by
 unfold impl_reader_take_.m
 have hs:((strOf (a++b)).size:Int)=((a.length+b.length:Nat):Int):=by rw [strOf_size,List.length_append]
 simp only [cond_false]
 rw [hs,decide_eq_false (show ¬ ((a.length:Int) > ((a.length+b.length:Nat):Int)) by omega),nn_dec,decide_eq_true (show (a.length:Int)≤((a.length+b.length:Nat):Int) by omega),Int.toNat_natCast,take_str,drop_str,List.take_left,List.drop_left]
 rfl
theorem numStep {v b:Int} (h0:0≤v) (h1:v≤255) (h2:0≤b) (h3:b≤255):w64 ((w64 (v * 2 ^ (min (Int.toNat (8:Int)) 64)))+(w64 b))=v * 256+b:=by
 have e:(2:Int) ^ (min (Int.toNat (8:Int)) 64)=256:=rfl
 rw [e,w_small (show -1048576≤v * 256 by omega) (by omega),w_small (show -1048576≤b by omega) (by omega),w_small (by omega) (by omega)]
theorem numOf1 {N:Nat} (hN:Big N) {x:Int} (h0:0≤x) (h1:x≤255):impl_numberOf.m N (strOf [x])=some x:=by
 have hs:((strOf [x]).size:Int)=1:=by rw [strOf_size];rfl
 have hx:sb (strOf [x]) 0=x:=by rw [show (0:Int)=((0:Nat):Int) from rfl,sb_eq,strOf_bytes _ (fun y hy=>by rw [List.mem_singleton] at hy;rw [hy];omega)];rfl
 unfold impl_numberOf.m impl_numberOf.m0 impl_numberOf.lp3
 obtain ⟨M,rfl⟩:∃M,N=M+2:=⟨N - 2,by omega⟩
 rw [hs,miter_s]
 simp only [impl_numberOf.step3]
 rw [hs,hx,numStep (Int.le_refl _) (by omega) h0 h1,miter_s]
 simp only [impl_numberOf.step3]
 rw [show w64 ((0:Int)+1)=1 from rfl]
 simp
theorem numOf2 {N:Nat} (hN:Big N) {x y:Int} (h0:0≤x) (h1:x≤255) (h2:0≤y) (h3:y≤255):impl_numberOf.m N (strOf [x,y])=some (x * 256+y):=by
 have hs:((strOf [x,y]).size:Int)=2:=by rw [strOf_size];rfl
 have by_:bytesOf (strOf [x,y])=[x,y]:=strOf_bytes _ (fun z hz=>by
  rcases List.mem_cons.1 hz with rfl | hz
  ·omega
  ·rw [List.mem_singleton] at hz;rw [hz];omega)
 have hx:sb (strOf [x,y]) 0=x:=by rw [show (0:Int)=((0:Nat):Int) from rfl,sb_eq,by_];rfl
 have hy:sb (strOf [x,y]) 1=y:=by rw [show (1:Int)=((1:Nat):Int) from rfl,sb_eq,by_];rfl
 unfold impl_numberOf.m impl_numberOf.m0 impl_numberOf.lp3
 obtain ⟨M,rfl⟩:∃M,N=M+3:=⟨N - 3,by omega⟩
 rw [hs,miter_s]
 simp only [impl_numberOf.step3]
 rw [hs,hx,numStep (Int.le_refl _) (by omega) h0 h1,miter_s]
 simp only [impl_numberOf.step3]
 rw [hs,show w64 ((0:Int)+1)=1 from rfl,hy,numStep (by omega) (by omega) h2 h3,miter_s]
 simp only [impl_numberOf.step3]
 rw [show w64 ((1:Int)+1)=2 from rfl]
 simp
theorem wu8N (k:Nat):wu8 (k:Int)=((k % 256:Nat):Int):=by
 simp only [wu8,IntKind.wrap,IntKind.bits,IntKind.signed]
 simp
theorem num1R {N:Nat} (hN:Big N) {k:Nat} (hk:k≤255) (b:List Int):impl_reader_number.m N (rdq ([wu8 (k:Int)]++b)) 1=some ((k:Int),rdq b):=by
 have e:wu8 (k:Int)=(k:Int):=by rw [wu8N];omega
 unfold impl_reader_number.m
 have t:=takeR N [wu8 (k:Int)] b
 rw [show ((([wu8 (k:Int)]:List Int).length:Nat):Int)=1 from rfl] at t
 rw [t,ob_some,e,numOf1 hN (by omega) (by omega)];rfl
theorem num2R {N:Nat} (hN:Big N) {v:Int} (h0:0≤v) (h1:v≤65535) (b:List Int):impl_reader_number.m N (rdq ([wu8 (f8 v),wu8 v]++b)) 2=some (v,rdq b):=by
 obtain ⟨k,rfl⟩:=Int.eq_ofNat_of_zero_le h0
 have hk:k≤65535:=by omega
 have e1:wu8 (f8 (k:Int))=((k / 256:Nat):Int):=by rw [f8_nat,wu8N];omega
 have e2:wu8 (k:Int)=((k % 256:Nat):Int):=wu8N k
 unfold impl_reader_number.m
 have t:=takeR N [wu8 (f8 (k:Int)),wu8 (k:Int)] b
 rw [show ((([wu8 (f8 (k:Int)),wu8 (k:Int)]:List Int).length:Nat):Int)=2 from rfl] at t
 rw [t,ob_some,e1,e2,numOf2 hN (by omega) (by omega) (by omega) (by omega),ob_some]
 have:((k / 256:Nat):Int) * 256+((k % 256:Nat):Int)=(k:Int):=by omega
 rw [this]
theorem num1I {N:Nat} (hN:Big N) {v:Int} (h0:0≤v) (h1:v≤255) (b:List Int):impl_reader_number.m N (rdq ([wu8 v]++b)) 1=some (v,rdq b):=by
 obtain ⟨k,rfl⟩:=Int.eq_ofNat_of_zero_le h0
 exact num1R hN (by omega) b
theorem cntR {N:Nat} (hN:Big N) {s:ByteArray} (hs:s.size≤255) (b:List Int):impl_reader_counted.m N (rdq ([wu8 (s.size:Int)]++(bytesOf s++b)))=some (s,rdq b):=by
 unfold impl_reader_counted.m
 have t:=takeR N (bytesOf s) b
 rw [bytesOf_length] at t
 rw [num1R hN hs,ob_some,t,ob_some,strOf_bytesOf]
theorem sesR {N:Nat} (hN:Big N) {x:Session} (hx:SesOK x) (b:List Int):impl_reader_session.m N (rdq (gS x++b))=some (x,rdq b):=by
 have e:gS x++b=[wu8 (f8 x.Id),wu8 x.Id]++([wu8 (f8 x.Seq),wu8 x.Seq]++([wu8 x.Last.Kind]++([wu8 x.Last.Place]++([wu8 (x.Last.Value.size:Int)]++(bytesOf x.Last.Value++b))))):=by simp [gS]
 unfold impl_reader_session.m
 rw [e,num2R hN hx.id.1 hx.id.2,ob_some,num2R hN hx.seq.1 hx.seq.2,ob_some,num1I hN (by rcases hx.kind with ⟨h,_⟩ | h<;>omega) (by rcases hx.kind with ⟨h,_⟩ | h<;>omega),ob_some,num1I hN hx.place.1 (by have:=hx.place.2;omega),ob_some,cntR hN (by have:=hx.val;omega),ob_some]
theorem cnd {α:Type} {c:Bool} {a b a' b':α} (h:a=a') (k:b=b'):(bif c then a else b)=(bif c then a' else b'):=by rw [h,k]
theorem obc {α β:Type} {m:Option α} {f g:α→Option β} (h:∀y,f y=g y):ob m f=ob m g:=congrArg (ob m) (funext h)
namespace RS
open impl_readSnapshot
def F17:A17→A17
 | .s0 a b c d e f=>.s7 a b c d e f [] [] []
 | .s1 a b c d e f l=>.s7 a b c d e f l [] []
 | .s2 a b c d e f p=>.s7 a b c d e f [] p []
 | .s3 a b c d e f s=>.s7 a b c d e f [] [] s
 | .s4 a b c d e f l p=>.s7 a b c d e f l p []
 | .s5 a b c d e f l s=>.s7 a b c d e f l [] s
 | .s6 a b c d e f p s=>.s7 a b c d e f [] p s
 | .s7 a b c d e f l p s=>.s7 a b c d e f l p s
def F13:A13→A13
 | .s0 a b c d e f g=>.s7 a b c d e f g [] [] []
 | .s1 a b c d e f g l=>.s7 a b c d e f g l [] []
 | .s2 a b c d e f g p=>.s7 a b c d e f g [] p []
 | .s3 a b c d e f g s=>.s7 a b c d e f g [] [] s
 | .s4 a b c d e f g l p=>.s7 a b c d e f g l p []
 | .s5 a b c d e f g l s=>.s7 a b c d e f g l [] s
 | .s6 a b c d e f g p s=>.s7 a b c d e f g [] p s
 | .s7 a b c d e f g l p s=>.s7 a b c d e f g l p s
def F7:A7→A7
 | .s0 a b c d e f g=>.s3 a b c d e f g [] []
 | .s1 a b c d e f g l=>.s3 a b c d e f g l []
 | .s2 a b c d e f g p=>.s3 a b c d e f g [] p
 | .s3 a b c d e f g l p=>.s3 a b c d e f g l p
def F3:A3→A3
 | .s0 a b c d e f g=>.s1 a b c d e f g []
 | .s1 a b c d e f g l=>.s1 a b c d e f g l
theorem l2 (N:Nat) (a0:ByteArray) (v1 v2:ByteArray) (v3:Int) (v4:ByteArray) (v5:Bool) (p:List pairOf):∀(K:Nat) (v0:Int),miter (fun rec=>step17 N a0 rec) K (.s2 v0 v1 v2 v3 v4 v5 p)=miter (fun rec=>step17 N a0 rec) K (.s7 v0 v1 v2 v3 v4 v5 [] p [])
 | 0,_=>rfl
 | K+1,v0=>by
  rw [miter_s,miter_s]
  exact cnd (cnd (cnd (cnd (cnd (cnd rfl (l2 N a0 v1 v2 v3 v4 v5 p K _)) rfl) rfl) rfl) rfl) rfl
theorem l4 (N:Nat) (a0:ByteArray) (v1 v2:ByteArray) (v3:Int) (v4:ByteArray) (v5:Bool) (l:List ByteArray) (p:List pairOf):∀(K:Nat) (v0:Int),miter (fun rec=>step17 N a0 rec) K (.s4 v0 v1 v2 v3 v4 v5 l p)=miter (fun rec=>step17 N a0 rec) K (.s7 v0 v1 v2 v3 v4 v5 l p [])
 | 0,_=>rfl
 | K+1,v0=>by
  rw [miter_s,miter_s]
  exact cnd (cnd (cnd (cnd (cnd (cnd rfl (l4 N a0 v1 v2 v3 v4 v5 l p K _)) rfl) rfl) rfl) rfl) rfl
theorem l6 (N:Nat) (a0:ByteArray) (v1 v2:ByteArray) (v3:Int) (v4:ByteArray) (v5:Bool) (p:List pairOf) (s:List Session):∀(K:Nat) (v0:Int),miter (fun rec=>step17 N a0 rec) K (.s6 v0 v1 v2 v3 v4 v5 p s)=miter (fun rec=>step17 N a0 rec) K (.s7 v0 v1 v2 v3 v4 v5 [] p s)
 | 0,_=>rfl
 | K+1,v0=>by
  rw [miter_s,miter_s]
  exact cnd (cnd (cnd (cnd (cnd (cnd rfl (l6 N a0 v1 v2 v3 v4 v5 p s K _)) rfl) rfl) rfl) rfl) rfl
def ix17:A17→Int
 | .s0 a _ _ _ _ _=>a
 | .s1 a _ _ _ _ _ _=>a
 | .s2 a _ _ _ _ _ _=>a
 | .s3 a _ _ _ _ _ _=>a
 | .s4 a _ _ _ _ _ _ _=>a
 | .s5 a _ _ _ _ _ _ _=>a
 | .s6 a _ _ _ _ _ _ _=>a
 | .s7 a _ _ _ _ _ _ _ _=>a
theorem full17 (N:Nat) (a0:ByteArray) (a:A17) (h:ix17 a=1):lp17 N a0 a=lp17 N a0 (F17 a):=by
 unfold lp17
 cases a with
 | s2 a b c d e f p=>exact l2 N a0 b c d e f p N a
 | s4 a b c d e f l p=>exact l4 N a0 b c d e f l p N a
 | s6 a b c d e f p s=>exact l6 N a0 b c d e f p s N a
 | s7=>rfl
 | s0 a b c d e f=>obtain rfl:a=1:=h;cases N with
  | zero=>rfl
  | succ N=>rw [miter_s];rfl
 | s1 a b c d e f l=>obtain rfl:a=1:=h;cases N with
  | zero=>rfl
  | succ N=>rw [miter_s];rfl
 | s3 a b c d e f s=>obtain rfl:a=1:=h;cases N with
  | zero=>rfl
  | succ N=>rw [miter_s];rfl
 | s5 a b c d e f l s=>obtain rfl:a=1:=h;cases N with
  | zero=>rfl
  | succ N=>rw [miter_s];rfl
theorem full13 (N:Nat) (a0:ByteArray):∀(K:Nat) (a:A13),miter (fun rec=>step13 N a0 (lp17 N a0) rec) K a=miter (fun rec=>step13 N a0 (lp17 N a0) rec) K (F13 a)
 | 0,_=>rfl
 | K+1,a=>by
  have ih:=full13 N a0 K
  have h:=full17 N a0
  rw [miter_s,miter_s]
  cases a with
  | s7=>rfl
  | s0=>exact cnd (obc fun y=>cnd (ih (.s3 _ _ _ _ _ _ _ _)) rfl) (h (.s0 _ _ _ _ _ _) rfl)
  | s1=>exact cnd (obc fun y=>cnd (ih (.s5 _ _ _ _ _ _ _ _ _)) rfl) (h (.s1 _ _ _ _ _ _ _) rfl)
  | s2=>exact cnd (obc fun y=>cnd (ih (.s6 _ _ _ _ _ _ _ _ _)) rfl) (h (.s2 _ _ _ _ _ _ _) rfl)
  | s3=>exact cnd (obc fun y=>cnd (ih (.s3 _ _ _ _ _ _ _ _)) rfl) (h (.s3 _ _ _ _ _ _ _) rfl)
  | s4=>exact cnd (obc fun y=>cnd (ih (.s7 _ _ _ _ _ _ _ _ _ _)) rfl) (h (.s4 _ _ _ _ _ _ _ _) rfl)
  | s5=>exact cnd (obc fun y=>cnd (ih (.s5 _ _ _ _ _ _ _ _ _)) rfl) (h (.s5 _ _ _ _ _ _ _ _) rfl)
  | s6=>exact cnd (obc fun y=>cnd (ih (.s6 _ _ _ _ _ _ _ _ _)) rfl) (h (.s6 _ _ _ _ _ _ _ _) rfl)
theorem full7 (N:Nat) (a0:ByteArray):∀(K:Nat) (a:A7),miter (fun rec=>step7 N a0 (lp13 N a0) rec) K a=miter (fun rec=>step7 N a0 (lp13 N a0) rec) K (F7 a)
 | 0,_=>rfl
 | K+1,a=>by
  have ih:=full7 N a0 K
  have h:=fun a=>(show lp13 N a0 a=lp13 N a0 (F13 a) from full13 N a0 N a)
  rw [miter_s,miter_s]
  cases a with
  | s3=>rfl
  | s0=>exact cnd (obc fun y=>obc fun y=>obc fun y=>cnd (ih (.s2 _ _ _ _ _ _ _ _)) rfl) (obc fun y=>(h (.s0 _ _ _ _ _ _ _)).trans (h (.s4 _ _ _ _ _ _ _ _ _)).symm)
  | s1=>exact cnd (obc fun y=>obc fun y=>obc fun y=>cnd (ih (.s3 _ _ _ _ _ _ _ _ _)) rfl) (obc fun y=>(h (.s1 _ _ _ _ _ _ _ _)).trans (h (.s4 _ _ _ _ _ _ _ _ _)).symm)
  | s2=>exact cnd (obc fun y=>obc fun y=>obc fun y=>cnd (ih (.s2 _ _ _ _ _ _ _ _)) rfl) (obc fun y=>(h (.s2 _ _ _ _ _ _ _ _)).trans (h (.s4 _ _ _ _ _ _ _ _ _)).symm)
theorem full3 (N:Nat) (a0:ByteArray):∀(K:Nat) (a:A3),miter (fun rec=>step3 N a0 (lp7 N a0) rec) K a=miter (fun rec=>step3 N a0 (lp7 N a0) rec) K (F3 a)
 | 0,_=>rfl
 | K+1,a=>by
  have ih:=full3 N a0 K
  have h:=fun a=>(show lp7 N a0 a=lp7 N a0 (F7 a) from full7 N a0 N a)
  rw [miter_s,miter_s]
  cases a with
  | s1=>rfl
  | s0=>exact cnd (obc fun y=>cnd (ih (.s1 _ _ _ _ _ _ _ _)) rfl) (obc fun y=>(h (.s0 _ _ _ _ _ _ _)).trans (h (.s1 _ _ _ _ _ _ _ _)).symm)
end RS
end Mir.Y
