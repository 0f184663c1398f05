/- Lists of commands are applied from nothing. -/
import Derived.Test.YtmjmhkpkmejbnaaGreatQAY5
namespace Mir.Y
set_option linter.unusedVariables false
set_option linter.unusedSimpArgs false
open Go
set_option linter.unusedSectionVars false
variable [UU]
@[reducible] def st0 : St := ⟨[], [], eB, []⟩
theorem inv0 : InvS st0 := ⟨.inl ⟨rfl, rfl⟩, Nat.zero_le _, fun l hl => absurd hl List.not_mem_nil, Nat.zero_le _, fun x hx => absurd hx List.not_mem_nil, List.Pairwise.nil, Nat.zero_le _, fun x hx => absurd hx List.not_mem_nil⟩
structure Run (N : Nat) (l : List Command) (S : Nat → St) (R : Nat → Reply) : Prop where
  z : S 0 = st0
  inv : ∀ i, i ≤ l.length → InvS (S i)
  stp : ∀ (i : Nat) (h : i < l.length), Stp N (S i) l[i] (R i) (S (i + 1))
theorem run_ex {N : Nat} (hN : Big N) (l : List Command) (hl : ∀ c ∈ l, CmdOK c) : ∃ S R, Run N l S R := by
  have tot : ∀ p : St × Command, ∃ q : Reply × St, InvS p.1 → CmdOK p.2 → Stp N p.1 p.2 q.1 q.2 := by
    rintro ⟨s, c⟩
    by_cases h : InvS s ∧ CmdOK c
    · obtain ⟨r, s', k⟩ := stepB hN s c h.1 h.2
      exact ⟨(r, s'), fun _ _ => k⟩
    · exact ⟨(rk 0, s), fun h1 h2 => absurd ⟨h1, h2⟩ h⟩
  obtain ⟨f, hf⟩ := Classical.axiomOfChoice tot
  let S : Nat → St := fun n => Nat.rec (motive := fun _ => St) st0 (fun i s => (f (s, l.getD i Command.dz)).2) n
  have hS : ∀ i, S (i + 1) = (f (S i, l.getD i Command.dz)).2 := fun i => rfl
  have hi : ∀ i, i ≤ l.length → InvS (S i) := by
    intro i
    induction i with
    | zero => intro _; exact inv0
    | succ i ih =>
      intro h
      rw [hS]
      exact (hf (S i, l.getD i Command.dz) (ih (by omega)) (by show CmdOK (l.getD i Command.dz); rw [getD_at (show i < l.length by omega)]; exact hl _ (List.getElem_mem _))).inv
  refine ⟨S, fun i => (f (S i, l.getD i Command.dz)).1, rfl, hi, fun i h => ?_⟩
  have := hf (S i, l.getD i Command.dz) (hi i (by omega)) (by show CmdOK (l.getD i Command.dz); rw [getD_at h]; exact hl _ (List.getElem_mem _))
  rw [hS]
  rwa [getD_at h] at this ⊢
theorem Run.take {N : Nat} {l : List Command} {S : Nat → St} {R : Nat → Reply} (h : Run N l S R) (n : Nat) : Run N (l.take n) S R := by
  refine ⟨h.z, fun i hi => h.inv i (by rw [List.length_take] at hi; omega), fun i hi => ?_⟩
  have hi2 : i < l.length := by rw [List.length_take] at hi; omega
  rw [List.getElem_take]
  exact h.stp i hi2
def rps (R : Nat → Reply) (n : Nat) : List Reply := (List.range n).map R
theorem rps_succ (R : Nat → Reply) (n : Nat) : rps R (n + 1) = rps R n ++ [R n] := by simp [rps, List.range_succ]
theorem rps_len (R : Nat → Reply) (n : Nat) : (rps R n).length = n := by simp [rps]
theorem rps_at (R : Nat → Reply) {i n : Nat} (h : i < n) : (rps R n).getD i Reply.dz = R i := by
  rw [getD_at (by rw [rps_len]; exact h)]
  simp [rps]
theorem room32 {n : Nat} (h : n ≤ 1000) : room n 32 = true := by simp only [room, decide_eq_true_eq]; omega
theorem applyAllI {N : Nat} (hN : Big N) {l : List Command} {S : Nat → St} {R : Nat → Reply} (h : Run N l S R) (hl : l.length ≤ 100) : impl_applyAll.m N l = some ((S l.length).led, rps R l.length) := by
  unfold impl_applyAll.m impl_applyAll.m0 impl_applyAll.lp3
  obtain ⟨M, rfl⟩ : ∃ M, N = M + 1 := ⟨N - 1, by omega⟩
  have e0 : miter (fun rec => impl_applyAll.step3 (M + 1) l rec) (M + 1) (.s0 (l.length : Int) 0 ByteArray.empty ByteArray.empty 0 []) = miter (fun rec => impl_applyAll.step3 (M + 1) l rec) (M + 1) (.s1 (l.length : Int) 0 ByteArray.empty ByteArray.empty 0 [] [] [] []) := by
    rw [miter_s, miter_s]; rfl
  rw [e0]
  have hup := miter_up (step := fun rec => impl_applyAll.step3 (M + 1) l rec) (n := l.length) (st := fun i => .s1 (l.length : Int) (i : Int) ByteArray.empty ByteArray.empty 0 (S i).lv ((S i).L.map prO) (S i).ss (rps R i)) (r := some ((S l.length).led, rps R l.length)) (fun i hi rec => by
    simp only [impl_applyAll.step3]
    have hst := (h.stp i hi).impl
    rw [lt_dec hi, nn_dec, Int.toNat_natCast, getD_at hi, hst, w_up i 1048576 (by omega) (by omega), rps_succ]
    simp only [cond_true, ob_some]
    rw [room32 (by rw [rps_len]; simp; omega)]
    rfl) (fun rec => by
    simp only [impl_applyAll.step3]
    have hl := (h.inv l.length (Nat.le_refl _)).ledger hN
    rw [ge_dec, cond_false, hl]
    simp only [ob_some, brEta]) l.length 0 (M + 1) (by omega) (by omega)
  simp only [h.z] at hup
  exact hup
/-! ### Codes -/
theorem codeI {N : Nat} (hN : Big N) {l : List Command} (hl : l.length ≤ 100) (hc : ∀ c ∈ l, CmdOK c) : impl_commandsCode.m N l = some 0 := by
  unfold impl_commandsCode.m impl_isList_impl_Command.m
  rw [decide_eq_true (show (l.length : Int) ≤ 4096 by omega), ob_some, decide_eq_false (show ¬ ((l.length : Int) > 120) by omega)]
  unfold slices_ContainsFunc_impl_Command_impl_Command__impl_commandsCode_1.m slices_IndexFunc_impl_Command_impl_Command__impl_commandsCode_1.m slices_IndexFunc_impl_Command_impl_Command__impl_commandsCode_1.m0 slices_IndexFunc_impl_Command_impl_Command__impl_commandsCode_1.lp2
  have hup := miter_up (step := fun rec => slices_IndexFunc_impl_Command_impl_Command__impl_commandsCode_1.step2 N l rec) (n := l.length) (st := fun i => ((l.length : Int), (i : Int))) (r := some (-1)) (fun i hi rec => by
    simp only [slices_IndexFunc_impl_Command_impl_Command__impl_commandsCode_1.step2, impl_commandsCode_1.m]
    rw [lt_dec hi, nn_dec, Int.toNat_natCast, getD_at hi, cmdI N (hc _ (List.getElem_mem _)), w_up i 1048576 (by omega) (by omega)]
    rfl) (fun rec => by
    simp only [slices_IndexFunc_impl_Command_impl_Command__impl_commandsCode_1.step2]
    rw [ge_dec]; rfl) l.length 0 N (by omega) (by omega)
  have hup : miter (fun rec => slices_IndexFunc_impl_Command_impl_Command__impl_commandsCode_1.step2 N l rec) N ((l.length : Int), (0 : Int)) = some (-1) := hup
  rw [hup]; rfl
/-! ### The answer to a command in a list -/
def cEq (x y : Command) : Bool := (x.Kind == y.Kind) && ((x.Session == y.Session) && ((x.Seq == y.Seq) && ((seq x.Key y.Key) && (seq x.Value y.Value))))
theorem cEq_iff {x y : Command} : cEq x y = true ↔ x = y := by
  constructor
  · intro h
    simp only [cEq, Bool.and_eq_true, beq_iff_eq, seq_iff] at h
    obtain ⟨h1, h2, h3, h4, h5⟩ := h
    cases x; cases y; simp_all
  · rintro rfl
    simp [cEq, seq_self]
theorem cEq_ne {x y : Command} (h : x ≠ y) : cEq x y = false := by rw [Bool.eq_false_iff]; exact fun k => h (cEq_iff.1 k)
theorem cEq_self (x : Command) : cEq x x = true := cEq_iff.2 rfl
theorem indexI {N : Nat} (hN : Big N) {l : List Command} (hl : l.length ≤ 100) {c : Command} {j : Nat} (hj : j < l.length) (h1 : l[j] = c) (h2 : ∀ i (h : i < l.length), i < j → l[i] ≠ c) : slices_Index_impl_Command_impl_Command.m N l c = some (j : Int) := by
  unfold slices_Index_impl_Command_impl_Command.m slices_Index_impl_Command_impl_Command.m0 slices_Index_impl_Command_impl_Command.lp2
  have hup := miter_up (step := fun rec => slices_Index_impl_Command_impl_Command.step2 N l c rec) (n := j) (st := fun i => ((l.length : Int), (i : Int))) (r := some (j : Int)) (fun i hi rec => by
    have hi2 : i < l.length := by omega
    have e : cEq c l[i] = false := cEq_ne (fun k => h2 i hi2 hi k.symm)
    unfold cEq at e
    simp only [slices_Index_impl_Command_impl_Command.step2]
    rw [lt_dec hi2, nn_dec, Int.toNat_natCast, getD_at hi2, e, w_up i 1048576 (by omega) (by omega)]
    rfl) (fun rec => by
    have e : cEq c l[j] = true := cEq_iff.2 h1.symm
    unfold cEq at e
    simp only [slices_Index_impl_Command_impl_Command.step2]
    rw [lt_dec hj, nn_dec, Int.toNat_natCast, getD_at hj, e]
    rfl) j 0 N (by omega) (by omega)
  exact hup
theorem answerI {N : Nat} (hN : Big N) {l : List Command} {S : Nat → St} {R : Nat → Reply} (h : Run N l S R) (hl : l.length ≤ 100) (hc : ∀ c ∈ l, CmdOK c) {c : Command} {j : Nat} (hj : j < l.length) (h1 : l[j] = c) (h2 : ∀ i (h : i < l.length), i < j → l[i] ≠ c) : impl_AnswerIn.m N l c = some (R j, (j : Int), 0) := by
  have hcc : CmdOK c := by rw [← h1]; exact hc _ (List.getElem_mem _)
  have ht : (l.take (j + 1)).length = j + 1 := by rw [List.length_take]; omega
  have ha := applyAllI hN (h.take (j + 1)) (by omega)
  rw [ht] at ha
  unfold impl_AnswerIn.m impl_answerIn.m
  rw [codeI hN hl hc, ob_some, show ((0:Int) != 0) = false from rfl, cond_false, cmdI N hcc, ob_some, indexI hN hl hj h1 h2]
  simp only [ob_some, Bool.not_true, cond_false]
  rw [decide_eq_false (show ¬ ((j : Int) < 0) by omega), cond_false, w_up j 1048576 (by omega) (by omega), nn_dec, decide_eq_true (show ((j + 1 : Nat) : Int) ≤ (l.length : Int) by omega), Int.toNat_natCast, ha]
  simp only [ob_some, cond_true]
  rw [nn_dec, rps_len, decide_eq_true (show ((j : Nat) : Int) < ((j + 1 : Nat) : Int) by omega), Int.toNat_natCast, rps_at R (show j < j + 1 by omega)]
  rfl
theorem answerS {N : Nat} (hN : Big N) {l : List Command} {S : Nat → St} {R : Nat → Reply} (h : Run N l S R) (hl : l.length ≤ 100) (hc : ∀ c ∈ l, CmdOK c) {c : Command} {j : Nat} (hj : j < l.length) (h1 : l[j] = c) (h2 : ∀ i (h : i < l.length), i < j → l[i] ≠ c) : spec_AnswerIn.m N l c = some (R j, (j : Int), 0) := by
  have hcc : CmdOK c := by rw [← h1]; exact hc _ (List.getElem_mem _)
  have l13 : spec_l13Answer.m N l c = some (R j, (j : Int), true) := by
    unfold spec_l13Answer.m spec_l13Answer.m0 spec_l13Answer.lp3
    obtain ⟨M, rfl⟩ : ∃ M, N = M + 1 := ⟨N - 1, by omega⟩
    have e0 : miter (fun rec => spec_l13Answer.step3 (M + 1) l c rec) (M + 1) (.s0 0 0 0 ByteArray.empty ByteArray.empty ByteArray.empty 0) = miter (fun rec => spec_l13Answer.step3 (M + 1) l c rec) (M + 1) (.s1 0 0 0 ByteArray.empty [] ByteArray.empty ByteArray.empty 0 [] []) := by
      rw [miter_s, miter_s]; rfl
    rw [e0]
    have hup := miter_up (step := fun rec => spec_l13Answer.step3 (M + 1) l c rec) (n := j) (st := fun i => .s1 (i : Int) 0 0 ByteArray.empty (S i).lv (S i).b.Key (S i).b.Value (S i).b.At (S i).b.Kids (S i).ss) (r := some (R j, (j : Int), true)) (fun i hi rec => by
      have hi2 : i < l.length := by omega
      have e : cEq l[i] c = false := cEq_ne (h2 i hi2 hi)
      unfold cEq at e
      simp only [spec_l13Answer.step3, brEta]
      rw [lt_dec hi2, nn_dec, Int.toNat_natCast, getD_at hi2, e, (h.stp i hi2).spec, w_up i 1048576 (by omega) (by omega)]
      rfl) (fun rec => by
      have e : cEq l[j] c = true := cEq_iff.2 h1
      unfold cEq at e
      simp only [spec_l13Answer.step3, brEta]
      rw [lt_dec hj, nn_dec, Int.toNat_natCast, getD_at hj, e, (h.stp j hj).spec]
      rfl) j 0 (M + 1) (by omega) (by omega)
    simp only [h.z] at hup
    exact hup
  unfold spec_AnswerIn.m spec_AnswerIn.m0 spec_AnswerIn.lp8
  rw [decide_eq_false (show ¬ ((l.length : Int) > 4096) by omega), decide_eq_false (show ¬ ((l.length : Int) > 120) by omega), cond_false, cond_false, cmdS N hcc, ob_some, Bool.not_true, cond_false]
  refine miter_up (step := fun rec => spec_AnswerIn.step8 N l c rec) (n := l.length) (st := fun i => ((i : Int), (0:Int), (0:Int), ByteArray.empty)) (fun i hi rec => ?_) (fun rec => ?_) l.length 0 N (by omega) (by omega)
  · simp only [spec_AnswerIn.step8]
    rw [lt_dec hi, nn_dec, Int.toNat_natCast, getD_at hi, cmdS N (hc _ (List.getElem_mem _)), w_up i 1048576 (by omega) (by omega)]
    rfl
  · simp only [spec_AnswerIn.step8]
    rw [ge_dec, cond_false, l13, ob_some]
    rfl
theorem pureFnAnswers (a0 a1 : List Int) (h0 : ∃ n, WfE E (WfA E n) (.slice 5 (.int .u8)) a0) (h1 : ∃ n, WfE E (WfA E n) (.slice 5 (.int .u8)) a1) : ∃ N, laws_FnAnswers.m N a0 a1 = some true := by
  refine ⟨16777216, ?_⟩
  have hN : Big 16777216 := Nat.le_refl _
  have b0 := wfBytes h0
  have b1 := wfBytes h1
  unfold laws_FnAnswers.m
  by_cases l0 : a0.length > 1048576
  · rw [decide_eq_true (show (a0.length : Int) > 1048576 by omega)]; rfl
  rw [decide_eq_false (show ¬ (a0.length : Int) > 1048576 by omega), cond_false]
  by_cases l1 : a1.length > 1048576
  · rw [decide_eq_true (show (a1.length : Int) > 1048576 by omega)]; rfl
  rw [decide_eq_false (show ¬ (a1.length : Int) > 1048576 by omega)]
  simp only [cond_false]
  obtain ⟨l, e1, n1, n2, hc⟩ := commandsS hN a0 (by omega) b0
  rw [e1, ob_some]
  obtain ⟨k', e2, k0, k1⟩ := lawsAt 16777216 a1 0 (l.length : Int) (by omega) b1 (by omega) (by omega) (by omega) (by omega)
  rw [e2, ob_some]
  obtain ⟨k, rfl⟩ := Int.eq_ofNat_of_zero_le k0
  have hk : k < l.length := by omega
  rw [show decide ((0:Int) ≤ ((k : Nat) : Int)) = true from nn_dec k, show decide (((k : Nat) : Int) < (l.length : Int)) = true from lt_dec hk]
  simp only [cond_true, Int.toNat_natCast]
  rw [getD_at hk]
  obtain ⟨S, R, run⟩ := run_ex hN l hc
  obtain ⟨j, hjk, hj1, hj2⟩ : ∃ j, j ≤ k ∧ l.getD j Command.dz = l[k] ∧ ∀ i, i < j → l.getD i Command.dz ≠ l[k] := by
    rcases first_of (fun j => l.getD j Command.dz = l[k]) (k + 1) with h | ⟨j, h1, h2, h3⟩
    · exact absurd (getD_at hk) (h k (by omega))
    · exact ⟨j, by omega, h2, h3⟩
  have hj : j < l.length := by omega
  rw [getD_at hj] at hj1
  have hj2' : ∀ i (h : i < l.length), i < j → l[i] ≠ l[k] := fun i h hi => by have := hj2 i hi; rwa [getD_at h] at this
  rw [answerI hN run (by omega) hc hj hj1 hj2', answerS hN run (by omega) hc hj hj1 hj2']
  simp only [ob_some]
  rw [w_up k 1048576 (by omega) (by omega), nn_dec, decide_eq_true (show ((k + 1 : Nat) : Int) ≤ (l.length : Int) by omega), Int.toNat_natCast]
  simp only [cond_true, Nat.zero_add, Nat.sub_zero, List.drop_zero]
  rw [decide_eq_true (show k + 1 ≤ l.length by omega), cond_true]
  have ht : (l.take (k + 1)).length = k + 1 := by rw [List.length_take]; omega
  have hct : ∀ c ∈ l.take (k + 1), CmdOK c := fun c h => hc c (List.mem_of_mem_take h)
  rw [answerI hN (run.take (k + 1)) (by omega) hct (c := l[k]) (j := j) (by omega) (by rw [List.getElem_take]; exact hj1) (fun i h hi => by rw [List.getElem_take]; exact hj2' i (by omega) hi), ob_some]
  simp [seq_self]
  rw [decide_eq_true hjk]; rfl
end Mir.Y
