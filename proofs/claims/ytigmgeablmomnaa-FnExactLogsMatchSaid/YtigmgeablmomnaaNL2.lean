/- Pure laws: NewNode. -/
import Derived.Test.YtigmgeablmomnaaNL1
namespace Mir.Y
set_option linter.unusedVariables false
set_option linter.unusedSimpArgs false
open Go
def inB (a lo hi : Int) : Bool := decide (a ≥ lo) && decide (a ≤ hi)
theorem l01In (N : Nat) (a lo hi : Int) : spec_l01In.m N a lo hi = some (inB a lo hi) := by
  unfold spec_l01In.m inB
  cases decide (a ≥ lo) <;> rfl
theorem within (N : Nat) (a lo hi : Int) : impl_within.m N a lo hi = some (inB a lo hi) := by
  unfold impl_within.m inB
  cases decide (a ≥ lo) <;> rfl
theorem isNumber (N : Nat) (a : Int) : impl_isNumber.m N a = some (inB a 0 6) := by
  unfold impl_isNumber.m; rw [within]; rfl
/-! ### Rising rows of numbers -/
def numsB (f : Nat → Int) (n : Nat) : Bool := allF (fun i => inB (f i) 0 6) 0 n
def riseB (f : Nat → Int) (n : Nat) : Bool := allF (fun i => !decide (f (i - 1) ≥ f i)) 1 (n - 1)
def idsB (f : Nat → Int) (n : Nat) : Bool := allF (fun i => inB (f i) 0 6 && !(decide (0 < i) && decide (f (i - 1) ≥ f i))) 0 n
theorem idsB_eq (f : Nat → Int) (n : Nat) : idsB f n = (numsB f n && riseB f n) := by
  rw [Bool.eq_iff_iff]
  simp only [idsB, numsB, riseB, Bool.and_eq_true, allF_iff, Bool.not_eq_true']
  constructor
  · intro h
    refine ⟨fun j h1 h2 => (h j h1 h2).1, fun j h1 h2 => ?_⟩
    have := (h j (by omega) (by omega)).2
    rw [decide_eq_true (by omega), Bool.true_and] at this
    exact this
  · rintro ⟨h1, h2⟩ j k1 k2
    refine ⟨h1 j k1 k2, ?_⟩
    by_cases hj : 0 < j
    · rw [h2 j (by omega) (by omega), Bool.and_false]
    · rw [decide_eq_false hj]; rfl
def ix (a : List Int) (i : Nat) : Int := a.getD i 0
theorem ixe (a : List Int) (i : Nat) : a.getD i 0 = ix a i := rfl
theorem l10Ids {N : Nat} (hN : Big N) (a : List Int) (h : a.length ≤ 1048576) : spec_l10Ids.m N a = some (idsB (ix a) a.length) := by
  unfold spec_l10Ids.m spec_l10Ids.lp2
  have := loop_all (step := fun rec => spec_l10Ids.step2 N a rec) (n := a.length) (st := fun i => (i : Int)) (p := fun i => inB (ix a i) 0 6 && !(decide (0 < i) && decide (ix a (i - 1) ≥ ix a i))) (f := some false) (t := some true) (fun i hi rec => by
    simp only [spec_l10Ids.step2, lt_dec hi, nn_dec, cond_true, Int.toNat_natCast, l01In, ob_some]
    simp only [ixe]
    cases h1 : inB (ix a i) 0 6 with
    | false => simp
    | true =>
      simp only [Bool.not_true, cond_false, Bool.true_and]
      by_cases h0 : 0 < i
      · have e : w64 ((i : Int) - 1) = ((i - 1 : Nat) : Int) := w_dn i h0 (by omega)
        simp only [decide_eq_true (show (i : Int) > 0 by omega), cond_true, e, nn_dec, lt_dec (show i - 1 < a.length by omega), Int.toNat_natCast, ixe, decide_eq_true h0, Bool.true_and, cond_false]
        cases decide (ix a (i - 1) ≥ ix a i) with
        | false => simp only [cond_false, cond_true, Bool.not_false]; rw [w_up i _ hi h]
        | true => rfl
      · rw [decide_eq_false (show ¬ (i : Int) > 0 by omega), decide_eq_false h0]
        simp only [cond_false, Bool.false_and, Bool.not_false, cond_true]
        rw [w_up i _ hi h]) (fun rec => by simp [spec_l10Ids.step2]) a.length 0 N (by omega) (by omega)
  refine this.trans ?_
  unfold idsB
  cases allF _ 0 a.length <;> rfl
theorem areNumbers {N : Nat} (hN : Big N) (a : List Int) (h : a.length ≤ 1048576) : impl_areNumbers.m N a = some (numsB (ix a) a.length) := by
  unfold impl_areNumbers.m slices_ContainsFunc_int_int__impl_areNumbers_1.m slices_IndexFunc_int_int__impl_areNumbers_1.m slices_IndexFunc_int_int__impl_areNumbers_1.lp2
  obtain ⟨y, hy, hd⟩ := loop_idx (step := fun rec => slices_IndexFunc_int_int__impl_areNumbers_1.step2 N a rec) (n := a.length) (st := fun i => ((a.length : Int), (i : Int))) (p := fun i => !inB (ix a i) 0 6) (fun i hi rec => by
    simp only [slices_IndexFunc_int_int__impl_areNumbers_1.step2, lt_dec hi, nn_dec, cond_true, Int.toNat_natCast, impl_areNumbers_1.m, within, ob_some]
    simp only [ixe]; rw [w_up i _ hi h]) (fun rec => by simp [slices_IndexFunc_int_int__impl_areNumbers_1.step2]) a.length 0 N (by omega) (by omega)
  have hy : miter (fun rec => slices_IndexFunc_int_int__impl_areNumbers_1.step2 N a rec) N ((a.length : Int), 0) = some y := hy
  rw [hy, ob_some, ob_some, hd]
  simp [numsB]
theorem areRising {N : Nat} (hN : Big N) (a : List Int) (h : a.length ≤ 1048576) : impl_areRising.m N a = some (riseB (ix a) a.length) := by
  unfold impl_areRising.m impl_areRising.lp2
  rcases Nat.eq_zero_or_pos a.length with h0 | h0
  · obtain rfl := List.eq_nil_of_length_eq_zero h0
    obtain ⟨M, rfl⟩ : ∃ M, N = M + 1 := ⟨N - 1, by omega⟩
    rfl
  have := loop_all (step := fun rec => impl_areRising.step2 N a rec) (n := a.length - 1) (st := fun i => ((i + 1 : Nat) : Int)) (p := fun i => !decide (ix a i ≥ ix a (i + 1))) (f := some false) (t := some true) (fun i hi rec => by
    have hi' : i + 1 < a.length := by omega
    have e : w64 (((i + 1 : Nat) : Int) - 1) = (i : Int) := by rw [w_dn (i + 1) (by omega) (by omega)]; rfl
    have e2 : w64 (((i + 1 : Nat) : Int) + 1) = ((i + 1 + 1 : Nat) : Int) := w_up (i + 1) _ hi' h
    simp only [impl_areRising.step2, lt_dec hi', nn_dec, cond_true, e, lt_dec (show i < a.length by omega), Int.toNat_natCast, e2]
    simp only [ixe]
    by_cases hc : ix a i ≥ ix a (i + 1) <;> simp [hc]) (fun rec => by
      have : a.length - 1 + 1 = a.length := by omega
      simp only [this, impl_areRising.step2, ge_dec, cond_false]) (a.length - 1) 0 N (by omega) (by omega)
  refine (show _ = _ from this).trans ?_
  have e : allF (fun i => !decide (ix a i ≥ ix a (i + 1))) 0 (a.length - 1) = riseB (ix a) a.length := by
    unfold riseB
    rw [Bool.eq_iff_iff, allF_iff, allF_iff]
    constructor
    · intro h j h1 h2
      have := h (j - 1) (by omega) (by omega)
      rw [show j - 1 + 1 = j by omega] at this
      exact this
    · intro h j h1 h2
      exact h (j + 1) (by omega) (by omega)
  rw [e]
  cases riseB (ix a) a.length <;> rfl
theorem membersOK {N : Nat} (hN : Big N) (a : List Int) (h : a.length ≤ 1048576) : impl_membersOK.m N a = some (decide (0 < a.length) && idsB (ix a) a.length) := by
  unfold impl_membersOK.m
  rw [areNumbers hN a h, areRising hN a h, idsB_eq]
  by_cases h0 : 0 < a.length
  · rw [decide_eq_true (show (a.length : Int) > 0 by omega), decide_eq_true h0]
    cases numsB (ix a) a.length <;> cases riseB (ix a) a.length <;> rfl
  · rw [decide_eq_false (show ¬ (a.length : Int) > 0 by omega), decide_eq_false h0]; rfl
/-! ### New nodes -/
theorem cloneInt (N : Nat) (a : List Int) (h : a.length ≤ 1048576) : slices_Clone_int_int.m N a = some a := by
  unfold slices_Clone_int_int.m
  rw [roomB (by simpa using h) (by omega), cond_true, List.nil_append]
  exact amb_right fun hp => by rw [List.isEmpty_iff] at hp; rw [hp]
def node0 (id : Int) (a : List Int) : Node := ⟨id, 0, -1, [], a, 0, [], [1, 1, 1, 1, 1, 1, 1], [0, 0, 0, 0, 0, 0, 0], 0, 0, w64 (5 + id), true⟩
theorem mul17 (N : Nat) : math_bits_Mul.m N (wu64 (([1] : List Int).length : Int)) (wu64 7) = some (0, 7) := by kernel_rfl
theorem follow (N : Nat) (hN : Big N) (x : Node) : impl_Node_follow.m N x = some ⟨x.Id, x.Term, x.Vote, x.Log, x.Start, 0, [], [1, 1, 1, 1, 1, 1, 1], [0, 0, 0, 0, 0, 0, 0], x.Commit, x.Elapsed, x.Wait, x.Up⟩ := by
  obtain ⟨M, rfl⟩ : ∃ M, N = M + 8 := ⟨N - 8, by omega⟩
  unfold impl_Node_follow.m
  have : slices_Repeat_int_int.m (M + 8) [1] 7 = some [1, 1, 1, 1, 1, 1, 1] := by
    unfold slices_Repeat_int_int.m
    rw [mul17]
    simp only [ob_some]
    unfold slices_Repeat_int_int.lp8
    kernel_rfl
  rw [this]
  rfl
theorem newNode (N : Nat) (hN : Big N) (id : Int) (a : List Int) (h : a.length ≤ 1048576) : impl_newNode.m N id a = some (node0 id a) := by
  unfold impl_newNode.m
  rw [cloneInt N a h, ob_some, follow N hN]
  rfl
theorem l10New (N : Nat) (hN : Big N) (id : Int) (a : List Int) (h : a.length ≤ 1048576) : spec_l10New.m N id a = some (node0 id a) := by
  obtain ⟨M, rfl⟩ : ∃ M, N = M + 9 := ⟨N - 9, by omega⟩
  unfold spec_l10New.m
  rw [roomB (by simpa using h) (by omega), cond_true, List.nil_append]
  kernel_rfl
def zNode : Node := ⟨0, 0, 0, [], [], 0, [], [], [], 0, 0, 0, false⟩
def newR (id : Int) (a : List Int) : Node × Int := bif decide ((a.length : Int) > 4096) then (zNode, 2) else bif inB id 0 6 && (idsB (ix a) a.length && decide (0 < a.length)) then (node0 id a, 0) else (zNode, 1)
theorem specNew {N : Nat} (hN : Big N) (id : Int) (a : List Int) (h : a.length ≤ 1048576) : spec_NewNode.m N id a = some (newR id a) := by
  unfold spec_NewNode.m newR
  rw [l01In, l10Ids hN a h, l10New N hN id a h]
  simp only [ob_some, cond_false]
  have e : ((a.length : Int) == 0) = !decide (0 < a.length) := by
    rw [Bool.eq_iff_iff]; simp
  rw [e]
  cases decide ((a.length : Int) > 4096) <;> cases inB id 0 6 <;> cases idsB (ix a) a.length <;> cases decide (0 < a.length) <;> rfl
theorem implNew {N : Nat} (hN : Big N) (id : Int) (a : List Int) (h : a.length ≤ 1048576) : impl_NewNode.m N id a = some (newR id a) := by
  unfold impl_NewNode.m newR impl_isList_int.m
  rw [isNumber, membersOK hN a h, newNode N hN id a h]
  simp only [ob_some, cond_false]
  have e : decide ((a.length : Int) ≤ 4096) = !decide ((a.length : Int) > 4096) := by
    rw [Bool.eq_iff_iff]; simp
  rw [e]
  cases decide ((a.length : Int) > 4096) <;> cases inB id 0 6 <;> cases idsB (ix a) a.length <;> cases decide (0 < a.length) <;> rfl
theorem newR_sz (id : Int) (a : List Int) (h : a.length ≤ 1048576) : NodeSz (newR id a).1 1048576 := by
  unfold newR
  cases decide ((a.length : Int) > 4096) with
  | true => exact ⟨Nat.zero_le _, Nat.zero_le _, Nat.zero_le _, Nat.zero_le _, Nat.zero_le _⟩
  | false =>
    cases inB id 0 6 && (idsB (ix a) a.length && decide (0 < a.length)) with
    | true => exact ⟨Nat.zero_le _, h, Nat.zero_le _, (by decide : 7 ≤ 1048576), (by decide : 7 ≤ 1048576)⟩
    | false => exact ⟨Nat.zero_le _, Nat.zero_le _, Nat.zero_le _, Nat.zero_le _, Nat.zero_le _⟩
theorem mkNode (x y : Node) (h : y.Id = x.Id ∧ y.Term = x.Term ∧ y.Vote = x.Vote ∧ y.Role = x.Role ∧ y.Commit = x.Commit ∧ y.Elapsed = x.Elapsed ∧ y.Wait = x.Wait ∧ y.Up = x.Up) : Node.mk x.Id x.Term x.Vote y.Log y.Start x.Role y.Votes y.Next y.Match x.Commit x.Elapsed x.Wait x.Up = y := by
  obtain ⟨h1, h2, h3, h4, h5, h6, h7, h8⟩ := h
  rw [← h1, ← h2, ← h3, ← h4, ← h5, ← h6, ← h7, ← h8]
theorem pureNewNode (a0 : Int) (a1 : List Int) (h0 : ∃ n, WfE E (WfA E n) (.int .i64) a0) (h1 : ∃ n, WfE E (WfA E n) (.slice 3 (.int .i64)) a1) : ∃ N, laws_FnExactNewNode.m N a0 a1 = some true := by
  refine ⟨16777216, ?_⟩
  generalize hN' : 16777216 = N
  have hN : Big N := by omega
  unfold laws_FnExactNewNode.m
  by_cases hl : (a1.length : Int) > 1048576
  · rw [decide_eq_true hl]; rfl
  have h : a1.length ≤ 1048576 := by omega
  rw [decide_eq_false hl, cond_false, toIntS hN a1 h]
  simp only [ob_some]
  rw [specNew hN a0 a1 h, implNew hN a0 a1 h]
  simp only [ob_some]
  have hs := newR_sz a0 a1 h
  generalize newR a0 a1 = r at hs
  rw [eqNode hN r.1 hs, eqIntS hN a1 h, markIntS hN a1 1 h]
  obtain ⟨k, y, hm, _, hh, hk, hk2, hf⟩ := markNode hN r.1 1 hs (by omega) (by omega)
  rw [hm]
  simp only [ob_some, mkNode r.1 y hf, hh, Bool.not_true, cond_false, bne_self_eq_false]
  have c1 : (marks fInt 1 a1).1 = 1 + a1.length := by rw [marks_count fInt_count (by omega) (by omega) (by omega) (by omega)]; omega
  rw [decide_eq_false (show ¬ (marks fInt 1 a1).1 < 0 by omega), decide_eq_false (show ¬ k < 0 by omega)]
  rfl
end Mir.Y
