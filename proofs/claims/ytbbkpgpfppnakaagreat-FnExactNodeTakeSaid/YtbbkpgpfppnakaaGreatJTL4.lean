/- Pure laws: what a node's rows in memory are; NodeOK, UpToDate, NodeCrash. -/
import Derived.Test.YtbbkpgpfppnakaaGreatJTL3
namespace Mir.Y
set_option linter.unusedVariables false
set_option linter.unusedSimpArgs false
open Go
theorem wfText {n:Nat} {s:ByteArray} (h:WfA E n .str s):s.size≤maxLen:=by cases n<;>exact h
theorem wfNode {x:Node} (h:∃n,WfE E (WfA E n) (.st 25) x):NodeWf x:=by
 obtain ⟨n,h⟩:=h
 cases n with
 | zero=>exact h.2.2.2.1.elim
 | succ n=>
  obtain ⟨_,_,_,h4,h5,_,h7,h8,h9,_⟩:=h
  exact ⟨h4.1,fun e he=>wfText (h4.2 e he).2.2.1,h5.1,h7.1,h8.1,h9.1⟩
theorem term_eq (N:Nat) (x:Node) (n:Int):impl_Node_termAt.m N x n=spec_l10Term.m N x n:=rfl
theorem upTo_eq (N:Nat) (x:Node) (a b:Int):impl_Node_upToDate.m N x a b=spec_l10UpToDate.m N x a b:=rfl
theorem cloneEnt (N:Nat) (a:List Entry) (h:a.length≤1048576):slices_Clone_impl_Entry_impl_Entry.m N a=some a:=by
 unfold slices_Clone_impl_Entry_impl_Entry.m
 rw [roomB (by simpa using h) (by omega),cond_true,List.nil_append]
 exact amb_right fun hp=>by rw [List.isEmpty_iff] at hp;rw [hp]
end Mir.Y
