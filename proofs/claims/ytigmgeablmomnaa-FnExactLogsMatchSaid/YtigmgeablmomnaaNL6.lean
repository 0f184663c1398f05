/- Pure laws: what a group's rows in memory are; GroupOK, LogsMatch. -/
import Derived.Test.YtigmgeablmomnaaNL5
namespace Mir.Y
set_option linter.unusedVariables false
set_option linter.unusedSimpArgs false
open Go
theorem wfGroup {x : Group} (h : ∃ n, WfE E (WfA E n) (.st 70) x) : GroupWf x := by
  obtain ⟨n, h⟩ := h
  cases n with
  | zero => exact h.1.elim
  | succ n =>
    obtain ⟨h1, h2, h3, h4, _⟩ := h
    refine ⟨h1.1, fun y hy => ?_, h2.1, fun y hy => ?_, h3.1, fun y hy => ?_, h4.1, fun y hy => wfText (h4.2 y hy).2.2.2.2.2.1⟩
    · have hw := h1.2 y hy
      cases n with
      | zero => exact hw.2.2.2.1.elim
      | succ n =>
        obtain ⟨_, _, _, h4, h5, _, h7, h8, h9, _⟩ := hw
        exact ⟨h4.1, fun e he => wfText (h4.2 e he).2.2.1, h5.1, h7.1, h8.1, h9.1⟩
    · have hw := h2.2 y hy
      cases n with
      | zero => exact hw.2.2.2.2.2.2.2.1.elim
      | succ n => exact ⟨hw.2.2.2.2.2.2.2.1.1, fun e he => wfText (hw.2.2.2.2.2.2.2.1.2 e he).2.2.1⟩
    · have hw := h3.2 y hy
      cases n with
      | zero => exact hw.2.2.1.elim
      | succ n => exact ⟨hw.2.2.1.1, fun e he => wfText (hw.2.2.1.2 e he).2.2.1⟩
theorem groupEta (x : Group) : Group.mk x.Nodes x.Wire x.Leads x.Dones = x := rfl
theorem pureGroupOK (a0 : Group) (h0 : ∃ n, WfE E (WfA E n) (.st 70) a0) : ∃ N, laws_FnExactGroupOK.m N a0 = some true := by
  refine ⟨16777216, ?_⟩
  generalize hN' : 16777216 = N
  have hN : Big N := by omega
  unfold laws_FnExactGroupOK.m
  obtain ⟨y, e, _, hy⟩ := szGroup hN a0 1048576 (by omega) (by omega) (wfGroup h0)
  rw [groupEta, e, ob_some]
  by_cases h : y < 0
  · rw [decide_eq_true h]; rfl
  rw [decide_eq_false h, cond_false]
  have hs := hy (by omega)
  simp only [toGroup hN a0 hs, ob_some, specGroup hN a0 hs, implGroup hN a0 hs, eqGroup hN a0 hs, beq_self_eq_true, Bool.not_true, cond_false]
/-! ### LogsMatch -/
def eqE (x y : Entry) : Bool := (x.Term == y.Term) && ((x.Kind == y.Kind) && (seq x.Data y.Data))
/-- Counting down: the place behind the last index below n where the terms agree. -/
def lastT (a b : List Entry) : Nat → Nat
  | 0 => 0
  | n + 1 => bif (ex a n).Term != (ex b n).Term then lastT a b n else n + 1
theorem lastT_le (a b : List Entry) : ∀ n, lastT a b n ≤ n
  | 0 => Nat.le_refl _
  | n + 1 => by
    unfold lastT
    cases (ex a n).Term != (ex b n).Term with
    | true => exact Nat.le_succ_of_le (lastT_le a b n)
    | false => exact Nat.le_refl _
def sameB (a b : List Entry) (n : Nat) : Bool := allF (fun i => eqE (ex a i) (ex b i)) 0 n
def matchB (a b : List Entry) : Bool := sameB a b (lastT a b (min a.length b.length))
theorem min_int (a b : Nat) : (if (b : Int) < (a : Int) then (b : Int) else (a : Int)) = ((min a b : Nat) : Int) := by
  split <;> omega
theorem specMatch {N : Nat} (hN : Big N) (a b : List Entry) (ha : a.length ≤ M20) (hb : b.length ≤ M20) : spec_l12Match.m N a b = some (matchB a b) := by
  unfold spec_l12Match.m matchB
  rw [min_int]
  generalize hn : min a.length b.length = n
  have hna : n ≤ a.length := by omega
  have hnb : n ≤ b.length := by omega
  simp only [M20] at ha hb
  have ew : w64 ((n : Int) - 1) = (n : Int) - 1 := w_small (by omega) (by omega)
  rw [ew]
  have h6 : ∀ (r2 : Int → Option Bool) (k : Nat), k < n → spec_l12Match.lp6 N a b r2 ((k : Int), 0) = some (sameB a b (k + 1)) := by
    intro r2 k hk
    unfold spec_l12Match.lp6 sameB
    have := loop_all (step := fun rec => spec_l12Match.step6 N a b rec) (n := k + 1) (st := fun i => ((k : Int), (i : Int))) (p := fun i => eqE (ex a i) (ex b i)) (f := some false) (t := some true) (fun i hi rec => by
      simp only [spec_l12Match.step6, decide_eq_true (show (i : Int) ≤ (k : Int) by omega), lt_dec (show i < a.length by omega), lt_dec (show i < b.length by omega), nn_dec, cond_true, Int.toNat_natCast, exe]
      rw [w_up i (k + 1) hi (by omega)]
      show (bif !eqE (ex a i) (ex b i) then some false else _) = _
      cases eqE (ex a i) (ex b i) <;> rfl) (fun rec => by
      simp only [spec_l12Match.step6, decide_eq_false (show ¬ ((k + 1 : Nat) : Int) ≤ (k : Int) by omega), cond_false]) (k + 1) 0 N (by omega) (by omega)
    refine (show _ = _ from this).trans ?_
    cases allF (fun i => eqE (ex a i) (ex b i)) 0 (k + 1) <;> rfl
  have main : ∀ (k M : Nat), k ≤ n → k < M → miter (fun rec => spec_l12Match.step2 N a b (spec_l12Match.lp6 N a b rec) rec) M ((k : Int) - 1) = some (sameB a b (lastT a b k)) := by
    intro k
    induction k with
    | zero =>
      intro M _ hM
      obtain ⟨M, rfl⟩ : ∃ M', M = M' + 1 := ⟨M - 1, by omega⟩
      rfl
    | succ k ih =>
      intro M hk hM
      obtain ⟨M, rfl⟩ : ∃ M', M = M' + 1 := ⟨M - 1, by omega⟩
      show spec_l12Match.step2 N a b _ (miter _ M) _ = _
      have e : ((k + 1 : Nat) : Int) - 1 = (k : Int) := by omega
      have e2 : w64 ((k : Int) - 1) = (k : Int) - 1 := w_small (by omega) (by omega)
      rw [e]
      simp only [spec_l12Match.step2, decide_eq_true (show (k : Int) ≥ 0 by omega), lt_dec (show k < a.length by omega), lt_dec (show k < b.length by omega), nn_dec, cond_true, Int.toNat_natCast, exe, e2, h6 _ k (by omega), lastT]
      cases (ex a k).Term != (ex b k).Term with
      | true => exact ih M (by omega) (by omega)
      | false => rfl
  exact main n N (by omega) (by omega)
/-- How many at the front are the same. -/
theorem sameFirst {N : Nat} (hN : Big N) (a b : List Entry) (k : Nat) (hka : k ≤ a.length) (hkb : k ≤ b.length) (ha : a.length ≤ M20) : ∃ j : Nat, impl_sameFirst.m N (a.take k) (b.take k) = some (j : Int) ∧ (((j : Int) == (k : Int)) = sameB a b k) := by
  unfold impl_sameFirst.m impl_sameFirst.lp2
  simp only [M20] at ha
  have la : (a.take k).length = k := by simp; omega
  have lb : (b.take k).length = k := by simp; omega
  have gx : ∀ i, i < k → ex (a.take k) i = ex a i := fun i hi => by simp [ex, List.getD_eq_getElem?_getD, hi]
  have gy : ∀ i, i < k → ex (b.take k) i = ex b i := fun i hi => by simp [ex, List.getD_eq_getElem?_getD, hi]
  have main : ∀ (d i M : Nat), i + d = k → d < M → ∃ j : Nat, miter (fun rec => impl_sameFirst.step2 N (a.take k) (b.take k) rec) M (i : Int) = some (j : Int) ∧ i ≤ j ∧ (((j : Int) == (k : Int)) = allF (fun i => eqE (ex a i) (ex b i)) i d) := by
    intro d
    induction d with
    | zero =>
      intro i M h hM
      obtain ⟨M, rfl⟩ : ∃ M', M = M' + 1 := ⟨M - 1, by omega⟩
      obtain rfl : i = k := by omega
      refine ⟨i, ?_, Nat.le_refl _, by simp [allF]⟩
      show impl_sameFirst.step2 N _ _ _ _ = _
      simp only [impl_sameFirst.step2, la, lb, Int.lt_irrefl, if_false, decide_false, cond_false]
    | succ d ih =>
      intro i M h hM
      obtain ⟨M, rfl⟩ : ∃ M', M = M' + 1 := ⟨M - 1, by omega⟩
      obtain ⟨j, h1, h2, h3⟩ := ih (i + 1) M (by omega) (by omega)
      have hs : (fun rec => impl_sameFirst.step2 N (a.take k) (b.take k) rec) (miter (fun rec => impl_sameFirst.step2 N (a.take k) (b.take k) rec) M) (i : Int) = bif eqE (ex a i) (ex b i) then some (j : Int) else some (i : Int) := by
        simp only [impl_sameFirst.step2, la, lb, Int.lt_irrefl, if_false, lt_dec (show i < k by omega), nn_dec, cond_true, Int.toNat_natCast, exe, gx i (by omega), gy i (by omega)]
        rw [w_up i k (by omega) (by omega), h1]
        show (bif eqE (ex a i) (ex b i) then _ else _) = _
        rfl
      cases he : eqE (ex a i) (ex b i) with
      | true =>
        rw [he] at hs
        refine ⟨j, hs, by omega, ?_⟩
        rw [h3, allF, he]; rfl
      | false =>
        rw [he] at hs
        refine ⟨i, hs, Nat.le_refl _, ?_⟩
        rw [allF, he, beq_eq_false_iff_ne.2 (show (i : Int) ≠ (k : Int) by omega)]; rfl
  obtain ⟨j, h1, _, h2⟩ := main k 0 N (by omega) (by omega)
  exact ⟨j, h1, h2⟩
theorem implMatch {N : Nat} (hN : Big N) (x y : Node) (ha : x.Log.length ≤ M20) (hb : y.Log.length ≤ M20) : impl_logsMatch.m N x y = some (matchB x.Log y.Log) := by
  unfold impl_logsMatch.m impl_logsMatch.lp2 matchB
  rw [min_int]
  generalize hn : min x.Log.length y.Log.length = n
  have hna : n ≤ x.Log.length := by omega
  have hnb : n ≤ y.Log.length := by omega
  have ha' := ha
  simp only [M20] at ha hb
  have fin : ∀ k, k ≤ n → (ob (impl_sameFirst.m N (x.Log.take k) (y.Log.take k)) fun y2 => some (y2 == (k : Int))) = some (sameB x.Log y.Log k) := by
    intro k hk
    obtain ⟨j, h1, h2⟩ := sameFirst hN x.Log y.Log k (by omega) (by omega) ha'
    rw [h1, ob_some, h2]
  have main : ∀ (k M : Nat), k ≤ n → k < M → miter (fun rec => impl_logsMatch.step2 N x y rec) M (k : Int) = some (sameB x.Log y.Log (lastT x.Log y.Log k)) := by
    intro k
    induction k with
    | zero =>
      intro M _ hM
      obtain ⟨M, rfl⟩ : ∃ M', M = M' + 1 := ⟨M - 1, by omega⟩
      show impl_logsMatch.step2 N x y (miter (fun rec => impl_logsMatch.step2 N x y rec) M) 0 = _
      have f0 := fin 0 (by omega)
      simp only [impl_logsMatch.step2, Int.lt_irrefl, gt_iff_lt, decide_false, cond_false, Int.le_refl, decide_true, cond_true, decide_eq_true (show (0 : Int) ≤ (x.Log.length : Int) by omega), decide_eq_true (show (0 : Int) ≤ (y.Log.length : Int) by omega)]
      exact f0
    | succ k ih =>
      intro M hk hM
      obtain ⟨M, rfl⟩ : ∃ M', M = M' + 1 := ⟨M - 1, by omega⟩
      show impl_logsMatch.step2 N x y (miter (fun rec => impl_logsMatch.step2 N x y rec) M) _ = _
      have e2 : w64 (((k + 1 : Nat) : Int) - 1) = (k : Int) := by rw [w_dn (k + 1) (by omega) (by omega)]; rfl
      simp only [impl_logsMatch.step2, e2, decide_eq_true (show ((k + 1 : Nat) : Int) > 0 by omega), lt_dec (show k < x.Log.length by omega), lt_dec (show k < y.Log.length by omega), nn_dec, cond_true, Int.toNat_natCast, exe, decide_eq_true (show ((k + 1 : Nat) : Int) ≤ (x.Log.length : Int) by omega), decide_eq_true (show ((k + 1 : Nat) : Int) ≤ (y.Log.length : Int) by omega), fin (k + 1) hk, lastT]
      cases (ex x.Log k).Term != (ex y.Log k).Term with
      | true => exact ih M (by omega) (by omega)
      | false => rfl
  exact main n N (by omega) (by omega)
/-! ### All pairs -/
def pairsB (p : Nat → Nat → Bool) (n : Nat) : Bool := allF (fun i => allF (p i) 0 i) 0 n
def mP (a : List Node) (i j : Nat) : Bool := matchB (nx a i).Log (nx a j).Log
theorem specLogs {N : Nat} (hN : Big N) (x : Group) (h : GroupSz x) : spec_LogsMatch.m N x = some (bif grpB x then (pairsB (mP x.Nodes) x.Nodes.length, 0) else (false, 1)) := by
  unfold spec_LogsMatch.m
  rw [specGroup hN x h, ob_some]
  cases grpB x with
  | false => rfl
  | true =>
    simp only [Bool.not_true, cond_false, cond_true]
    have hn := h.Nodes
    have hn2 := hn
    simp only [M20] at hn2
    have h7 : ∀ (r4 : Int × List Node × List Message × List Lead × List Done → Option (Bool × Int)) (i : Nat), i < x.Nodes.length → spec_LogsMatch.lp7 N x r4 ((i : Int), 0, x.Nodes, x.Wire, x.Leads, x.Dones) = bif allF (mP x.Nodes i) 0 i then r4 (((i + 1 : Nat) : Int), x.Nodes, x.Wire, x.Leads, x.Dones) else some (false, 0) := by
      intro r4 i hi
      unfold spec_LogsMatch.lp7
      have := loop_all (step := fun rec => spec_LogsMatch.step7 N x r4 rec) (n := i) (st := fun j => ((i : Int), (j : Int), x.Nodes, x.Wire, x.Leads, x.Dones)) (p := mP x.Nodes i) (f := some (false, 0)) (t := r4 (((i + 1 : Nat) : Int), x.Nodes, x.Wire, x.Leads, x.Dones)) (fun j hj rec => by
        simp only [spec_LogsMatch.step7, lt_dec hj, lt_dec hi, lt_dec (show j < x.Nodes.length by omega), nn_dec, cond_true, Int.toNat_natCast, nxe, specMatch hN _ _ (nx_fit h.NodesW hi).sz.Log (nx_fit h.NodesW (show j < x.Nodes.length by omega)).sz.Log, ob_some]
        rw [w_up j i hj (by omega)]
        show (bif !mP x.Nodes i j then _ else _) = _
        cases mP x.Nodes i j <;> rfl) (fun rec => by
        simp only [spec_LogsMatch.step7, ge_dec, cond_false]
        rw [w_up i _ hi hn]) i 0 N (by omega) (by omega)
      exact this
    unfold spec_LogsMatch.lp4
    have := loop_all (step := fun rec => spec_LogsMatch.step4 N x (spec_LogsMatch.lp7 N x rec) rec) (n := x.Nodes.length) (st := fun i => ((i : Int), x.Nodes, x.Wire, x.Leads, x.Dones)) (p := fun i => allF (mP x.Nodes i) 0 i) (f := some (false, 0)) (t := some (true, 0)) (fun i hi rec => by
      simp only [spec_LogsMatch.step4, lt_dec hi, cond_true, h7 rec i hi]) (fun rec => by simp [spec_LogsMatch.step4]) x.Nodes.length 0 N (by omega) (by omega)
    refine (show _ = _ from this).trans ?_
    unfold pairsB
    cases allF (fun i => allF (mP x.Nodes i) 0 i) 0 x.Nodes.length <;> rfl
theorem implPairs {N : Nat} (hN : Big N) (a : List Node) (hl : a.length ≤ M20) (h : ∀ x ∈ a, NodeFit x) : impl_pairsHold_impl_Node__impl_logsMatch.m N a = some (pairsB (mP a) a.length) := by
  unfold impl_pairsHold_impl_Node__impl_logsMatch.m
  have hl2 := hl
  simp only [M20] at hl2
  have h5 : ∀ (r2 : Int × Int → Option Bool) (i : Nat), i < a.length → impl_pairsHold_impl_Node__impl_logsMatch.lp5 N a r2 ((a.length : Int), (i : Int), a.take i, ((a.take i).length : Int), 0, (nx a i).Id, (nx a i).Term, (nx a i).Vote, (nx a i).Log, (nx a i).Start, (nx a i).Role, (nx a i).Votes, (nx a i).Next, (nx a i).Match, (nx a i).Commit, (nx a i).Elapsed, (nx a i).Wait, (nx a i).Up) = bif allF (mP a i) 0 i then r2 ((a.length : Int), ((i + 1 : Nat) : Int)) else some false := by
    intro r2 i hi
    have lt : (a.take i).length = i := by simp; omega
    have gx : ∀ j, j < i → nx (a.take i) j = nx a j := fun j hj => by simp [nx, List.getD_eq_getElem?_getD, hj]
    unfold impl_pairsHold_impl_Node__impl_logsMatch.lp5
    rw [lt]
    have := loop_all (step := fun rec => impl_pairsHold_impl_Node__impl_logsMatch.step5 N a r2 rec) (n := i) (st := fun j => ((a.length : Int), (i : Int), a.take i, (i : Int), (j : Int), (nx a i).Id, (nx a i).Term, (nx a i).Vote, (nx a i).Log, (nx a i).Start, (nx a i).Role, (nx a i).Votes, (nx a i).Next, (nx a i).Match, (nx a i).Commit, (nx a i).Elapsed, (nx a i).Wait, (nx a i).Up)) (p := mP a i) (f := some false) (t := r2 ((a.length : Int), ((i + 1 : Nat) : Int))) (fun j hj rec => by
      simp only [impl_pairsHold_impl_Node__impl_logsMatch.step5, lt, lt_dec hj, nn_dec, cond_true, Int.toNat_natCast, nxe, gx j hj, nodeEta, implMatch hN _ _ (nx_fit h hi).sz.Log (nx_fit h (show j < a.length by omega)).sz.Log, ob_some]
      rw [w_up j i hj (by omega)]
      show (bif !mP a i j then _ else _) = _
      cases mP a i j <;> rfl) (fun rec => by
      simp only [impl_pairsHold_impl_Node__impl_logsMatch.step5, ge_dec, cond_false]
      rw [w_up i _ hi hl]) i 0 N (by omega) (by omega)
    exact this
  unfold impl_pairsHold_impl_Node__impl_logsMatch.lp2
  have := loop_all (step := fun rec => impl_pairsHold_impl_Node__impl_logsMatch.step2 N a (impl_pairsHold_impl_Node__impl_logsMatch.lp5 N a rec) rec) (n := a.length) (st := fun i => ((a.length : Int), (i : Int))) (p := fun i => allF (mP a i) 0 i) (f := some false) (t := some true) (fun i hi rec => by
    simp only [impl_pairsHold_impl_Node__impl_logsMatch.step2, lt_dec hi, nn_dec, cond_true, Int.toNat_natCast, nxe, decide_eq_true (show (i : Int) ≤ (a.length : Int) by omega)]
    exact h5 rec i hi) (fun rec => by simp [impl_pairsHold_impl_Node__impl_logsMatch.step2]) a.length 0 N (by omega) (by omega)
  refine (show _ = _ from this).trans ?_
  unfold pairsB
  cases allF (fun i => allF (mP a i) 0 i) 0 a.length <;> rfl
theorem implLogs {N : Nat} (hN : Big N) (x : Group) (h : GroupSz x) : impl_LogsMatch.m N x = some (bif grpB x then (pairsB (mP x.Nodes) x.Nodes.length, 0) else (false, 1)) := by
  unfold impl_LogsMatch.m
  rw [implGroup hN x h, ob_some, implPairs hN _ h.Nodes h.NodesW]
  cases grpB x <;> rfl
theorem pureLogsMatch (a0 : Group) (h0 : ∃ n, WfE E (WfA E n) (.st 70) a0) : ∃ N, laws_FnExactLogsMatch.m N a0 = some true := by
  refine ⟨16777216, ?_⟩
  generalize hN' : 16777216 = N
  have hN : Big N := by omega
  unfold laws_FnExactLogsMatch.m
  obtain ⟨y, e, _, hy⟩ := szGroup hN a0 1048576 (by omega) (by omega) (wfGroup h0)
  rw [e, ob_some]
  by_cases h : y < 0
  · rw [decide_eq_true h]; rfl
  rw [decide_eq_false h, cond_false]
  have hs := hy (by omega)
  simp only [groupEta, toGroup hN a0 hs, ob_some, specLogs hN a0 hs, implLogs hN a0 hs, eqGroup hN a0 hs, beq_self_eq_true, bne_self_eq_false, Bool.not_true, cond_false]
end Mir.Y
