/- Pure laws: what a node's rows in memory are; NodeOK, UpToDate, NodeCrash. -/
import Derived.Test.YtigmgeablmomnaaNL3
namespace Mir.Y
set_option linter.unusedVariables false
set_option linter.unusedSimpArgs false
open Go
theorem wfText {n : Nat} {s : ByteArray} (h : WfA E n .str s) : s.size ≤ maxLen := by cases n <;> exact h
theorem wfNode {x : Node} (h : ∃ n, WfE E (WfA E n) (.st 36) x) : NodeWf x := by
  obtain ⟨n, h⟩ := h
  cases n with
  | zero => exact h.2.2.2.1.elim
  | succ n =>
    obtain ⟨_, _, _, h4, h5, _, h7, h8, h9, _⟩ := h
    exact ⟨h4.1, fun e he => wfText (h4.2 e he).2.2.1, h5.1, h7.1, h8.1, h9.1⟩
theorem pureNodeOK (a0 : Node) (h0 : ∃ n, WfE E (WfA E n) (.st 36) a0) : ∃ N, laws_FnExactNodeOK.m N a0 = some true := by
  refine ⟨16777216, ?_⟩
  generalize hN' : 16777216 = N
  have hN : Big N := by omega
  unfold laws_FnExactNodeOK.m
  obtain ⟨y, e, _, hy⟩ := szNode hN a0 1048576 (by omega) (by omega) (wfNode h0)
  rw [nodeEta, e, ob_some]
  by_cases h : y < 0
  · rw [decide_eq_true h]; rfl
  rw [decide_eq_false h, cond_false]
  obtain ⟨hs, hd⟩ := hy (by omega)
  simp only [toNode hN a0 hs, ob_some, specOK hN a0 hs hd, implOK hN a0 hs hd, eqNode hN a0 hs, beq_self_eq_true, Bool.not_true, cond_false]
/-! ### UpToDate -/
theorem term_eq (N : Nat) (x : Node) (n : Int) : impl_Node_termAt.m N x n = spec_l10Term.m N x n := rfl
theorem upTo_eq (N : Nat) (x : Node) (a b : Int) : impl_Node_upToDate.m N x a b = spec_l10UpToDate.m N x a b := rfl
theorem l10Term (N : Nat) (x : Node) (h : x.Log.length ≤ M20) : ∃ t, spec_l10Term.m N x (x.Log.length : Int) = some t := by
  unfold spec_l10Term.m
  by_cases h0 : x.Log.length = 0
  · rw [h0]; exact ⟨_, rfl⟩
  · have e : ((x.Log.length : Int) == 0) = false := by rw [beq_eq_false_iff_ne]; omega
    have e1 : w64 ((x.Log.length : Int) - 1) = ((x.Log.length - 1 : Nat) : Int) := w_dn _ (by omega) h
    simp only [e, cond_false, e1, nn_dec, cond_true, lt_dec (show x.Log.length - 1 < x.Log.length by omega)]
    exact ⟨_, rfl⟩
theorem upTo (N : Nat) (x : Node) (a b : Int) (h : x.Log.length ≤ M20) : ∃ r, spec_l10UpToDate.m N x a b = some r := by
  unfold spec_l10UpToDate.m
  obtain ⟨t, ht⟩ := l10Term N x h
  rw [ht, ob_some]
  cases decide (b > t) <;> cases b == t <;> exact ⟨_, rfl⟩
theorem pureUpToDate (a0 : Node) (a1 a2 : Int) (h0 : ∃ n, WfE E (WfA E n) (.st 36) a0) (_ : ∃ n, WfE E (WfA E n) (.int .i64) a1) (_ : ∃ n, WfE E (WfA E n) (.int .i64) a2) : ∃ N, laws_FnExactUpToDate.m N a0 a1 a2 = some true := by
  refine ⟨16777216, ?_⟩
  generalize hN' : 16777216 = N
  have hN : Big N := by omega
  unfold laws_FnExactUpToDate.m
  obtain ⟨y, e, _, hy⟩ := szNode hN a0 1048576 (by omega) (by omega) (wfNode h0)
  rw [e, ob_some]
  by_cases h : y < 0
  · rw [decide_eq_true h]; rfl
  rw [decide_eq_false h, cond_false]
  obtain ⟨hs, hd⟩ := hy (by omega)
  obtain ⟨r, hr⟩ := upTo N a0 a1 a2 hs.Log
  have e1 : spec_UpToDate.m N a0 a1 a2 = some (bif okB a0 then (r, 0) else (false, 1)) := by
    unfold spec_UpToDate.m
    rw [specOK hN a0 hs hd, hr]
    cases okB a0 <;> rfl
  have e2 : impl_UpToDate.m N a0 a1 a2 = some (bif okB a0 then (r, 0) else (false, 1)) := by
    unfold impl_UpToDate.m
    rw [implOK hN a0 hs hd, upTo_eq, hr]
    cases okB a0 <;> rfl
  simp only [toNode hN a0 hs, ob_some, e1, e2, eqNode hN a0 hs, beq_self_eq_true, bne_self_eq_false, Bool.not_true, cond_false]
/-! ### NodeCrash -/
theorem cloneEnt (N : Nat) (a : List Entry) (h : a.length ≤ 1048576) : slices_Clone_impl_Entry_impl_Entry.m N a = some a := by
  unfold slices_Clone_impl_Entry_impl_Entry.m
  rw [roomB (by simpa using h) (by omega), cond_true, List.nil_append]
  exact amb_right fun hp => by rw [List.isEmpty_iff] at hp; rw [hp]
def crashR (x : Node) : Node × Int := bif okB x then (⟨x.Id, x.Term, x.Vote, x.Log, x.Start, 0, [], [1, 1, 1, 1, 1, 1, 1], [0, 0, 0, 0, 0, 0, 0], 0, 0, x.Wait, false⟩, 0) else (zNode, 1)
theorem specCrash {N : Nat} (hN : Big N) (x : Node) (h : NodeSz x M20) (hd : NodeData x) : spec_NodeCrash.m N x = some (crashR x) := by
  unfold spec_NodeCrash.m crashR spec_l10Crash.m
  rw [specOK hN x h hd, l10New N hN _ _ h.Start, List.nil_append]
  simp only [ob_some]
  rw [roomB (by have := h.Log; simpa using this) (by omega)]
  cases okB x <;> rfl
theorem implCrash {N : Nat} (hN : Big N) (x : Node) (h : NodeSz x M20) (hd : NodeData x) : impl_NodeCrash.m N x = some (crashR x) := by
  unfold impl_NodeCrash.m crashR
  rw [implOK hN x h hd, newNode N hN _ _ h.Start, cloneEnt N _ h.Log]
  cases okB x <;> rfl
theorem crashR_sz (x : Node) (h : NodeSz x M20) : NodeSz (crashR x).1 1048576 := by
  unfold crashR
  cases okB x with
  | true => exact ⟨h.Log, h.Start, Nat.zero_le _, (by decide : 7 ≤ 1048576), (by decide : 7 ≤ 1048576)⟩
  | false => exact ⟨Nat.zero_le _, Nat.zero_le _, Nat.zero_le _, Nat.zero_le _, Nat.zero_le _⟩
theorem pureNodeCrash (a0 : Node) (h0 : ∃ n, WfE E (WfA E n) (.st 36) a0) : ∃ N, laws_FnExactNodeCrash.m N a0 = some true := by
  refine ⟨16777216, ?_⟩
  generalize hN' : 16777216 = N
  have hN : Big N := by omega
  unfold laws_FnExactNodeCrash.m
  obtain ⟨y, e, _, hy⟩ := szNode hN a0 1048576 (by omega) (by omega) (wfNode h0)
  rw [e, ob_some]
  by_cases h : y < 0
  · rw [decide_eq_true h]; rfl
  rw [decide_eq_false h, cond_false]
  obtain ⟨hs, hd⟩ := hy (by omega)
  simp only [toNode hN a0 hs, ob_some, specCrash hN a0 hs hd, implCrash hN a0 hs hd]
  have hc := crashR_sz a0 hs
  generalize crashR a0 = r at hc
  obtain ⟨k1, y1, hm1, _, hh1, hk1, hk1', hf1⟩ := markNode hN a0 1 hs (by omega) (by omega)
  obtain ⟨k, z, hm, _, hh, hk, hk', hf⟩ := markNode hN r.1 1 hc (by omega) (by omega)
  simp only [eqNode hN r.1 hc, eqNode hN a0 hs, hm1, hm, ob_some, mkNode r.1 z hf, hh, Bool.not_true, cond_false, bne_self_eq_false, decide_eq_false (show ¬ k1 < 0 by omega), decide_eq_false (show ¬ k < 0 by omega)]
end Mir.Y
