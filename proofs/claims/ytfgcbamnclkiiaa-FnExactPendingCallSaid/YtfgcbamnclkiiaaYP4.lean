/- PendingCall: the pure law. -/
import Derived.Test.YtfgcbamnclkiiaaY2
import Derived.Test.YtfgcbamnclkiiaaMir30
namespace Mir.Y
set_option linter.unusedVariables false
set_option linter.unusedSimpArgs false
open Go
theorem seq_refl (x : ByteArray) : seq x x = true := by simp [seq]
theorem fill_set {α : Type} (a : List α) (z : α) (i : Nat) (h : i < a.length) : (a.take i ++ List.replicate (a.length - i) z).set i a[i] = a.take (i + 1) ++ List.replicate (a.length - (i + 1)) z := by
  have e : a.length - i = (a.length - (i + 1)) + 1 := by omega
  rw [e, List.replicate_succ, List.set_append_right _ _ (by simp; omega)]
  have : i - (a.take i).length = 0 := by simp; omega
  rw [this, List.set_cons_zero, List.take_add_one, List.getElem?_eq_getElem h]
  simp only [Option.toList_some, List.append_assoc, List.singleton_append]
theorem eqC (N : Nat) (c : CallRecord) : F43.m N c c = some true := by
  simp [F43.m, F71.m, F72.m, seq_refl]
theorem toC (N : Nat) (c : CallRecord) : F39.m N c = some c := rfl
theorem getD_eq {α : Type} {a : List α} {i : Nat} {d : α} (h : i < a.length) : a.getD i d = a[i] := by simp [List.getD_eq_getElem?_getD, h]
theorem up (i n : Nat) (h : i < n) (hn : n ≤ 1048576) : w64 ((i : Int) + 1) = ((i + 1 : Nat) : Int) := by
  rw [w64_eq (by omega) (by omega)]; omega
theorem toCs (N : Nat) (a : List CallRecord) (h : a.length ≤ 1048576) (hN : a.length < N) : F15.m N a = some a := by
  have hr : room (Int.toNat (a.length : Int)) 112 = true := by simp [room]; omega
  unfold F15.m
  rw [hr]
  simp only [Int.toNat_natCast, Int.natCast_nonneg, decide_true, cond_true]
  let z : CallRecord := CallRecord.mk 0 0 0 (Command.mk 0 0 0 ByteArray.empty ByteArray.empty) (Reply.mk 0 0 ByteArray.empty)
  have := miter_up (step := fun rec => F15.step3 N a rec) (n := a.length) (st := fun i => ((i : Int), a.take i ++ List.replicate (a.length - i) z)) (r := some a) (fun i hi rec => by
    have hlt : (i : Int) < (a.length : Int) := by omega
    simp only [F15.step3, hlt, Int.natCast_nonneg, decide_true, cond_true, Int.toNat_natCast, getD_eq hi]
    show (bif decide ((i : Int) < ((a.take i ++ List.replicate (a.length - i) z).length : Int)) then rec (w64 ((i : Int) + 1), (a.take i ++ List.replicate (a.length - i) z).set i a[i]) else none) = _
    rw [fill_set a z i hi, up i _ hi h]
    have : (i : Int) < ((a.take i ++ List.replicate (a.length - i) z).length : Int) := by simp; omega
    rw [decide_eq_true this, cond_true]) (fun rec => by
    simp [F15.step3]) a.length 0 N (by omega) hN
  simpa [F15.lp3] using this
theorem eqCs (N : Nat) (a : List CallRecord) (h : a.length ≤ 1048576) (hN : a.length < N) : F17.m N a a = some true := by
  unfold F17.m
  simp only [bne_self_eq_false, cond_false]
  exact miter_up (step := fun rec => F17.step4 N a a rec) (n := a.length) (st := fun i => (i : Int)) (r := some true) (fun i hi rec => by
    have hlt : (i : Int) < (a.length : Int) := by omega
    simp only [F17.step4, hlt, Int.natCast_nonneg, decide_true, cond_true, Int.toNat_natCast, getD_eq hi]
    show ob (F43.m N a[i] a[i]) _ = _
    rw [eqC, ob_some]
    simp only [Bool.not_true, cond_false]
    rw [up i _ hi h]) (fun rec => by
    simp [F17.step4]) a.length 0 N (by omega) hN
theorem pend (N : Nat) (a : List CallRecord) (c : Int) (h : a.length ≤ 1048576) (hN : a.length < N) : ∃ z, F38.m N a c = some z := by
  unfold F38.m F38.lp2
  rw [w64_eq (by omega) (by omega)]
  refine miter_all (p := fun r => ∃ z : Int, r = some z) (fun (v : Int) => (v + 1).toNat) (fun (v : Int) => -1 ≤ v ∧ v < a.length) (fun v hv rec hrec => ?_) N _ ⟨by omega, by omega⟩ (by omega)
  unfold F38.step2
  have key : 0 ≤ v → ∃ z, rec (w64 (v - 1)) = some z := fun h0 => by
    rw [w64_eq (by omega) (by omega)]
    exact hrec _ ⟨by omega, by omega⟩ (by omega)
  by_cases h0 : v ≥ 0
  · have h1 : (0 : Int) ≤ v := h0
    simp only [h0, h1, hv.2, decide_true, cond_true]
    cases ((a.getD (Int.toNat v) CallRecord.dz).Client == c) with
    | false => exact key h0
    | true =>
      cases decide ((a.getD (Int.toNat v) CallRecord.dz).End < 0) with
      | false => exact key h0
      | true => exact ⟨v, rfl⟩
  · simp only [h0, decide_false, cond_false]
    exact ⟨_, rfl⟩
def OKc (c : CallRecord) : Prop := c.Command.Key.size ≤ maxLen ∧ c.Command.Value.size ≤ maxLen ∧ c.Answer.Value.size ≤ maxLen
theorem sub1 {x : Int} {n : Nat} (h : 0 ≤ x) (hx : x ≤ 1048576) (hn : n ≤ maxLen) : w64 (x - n) = x - n := by
  have hm : maxLen ≤ 9223372036854775807 := by decide
  exact w64_eq (by omega) (by omega)
theorem szk (N : Nat) (c : Command) (x : Int) (h1 : c.Key.size ≤ maxLen) (h2 : c.Value.size ≤ maxLen) (h : 0 ≤ x) (hx : x ≤ 1048576) : ∃ y : Int, F67.m N c x = some y ∧ y ≤ 1048576 := by
  unfold F67.m
  rw [sub1 h hx h1]
  by_cases ha : x - (c.Key.size : Int) < 0
  · rw [decide_eq_true ha]; exact ⟨_, rfl, by omega⟩
  · rw [decide_eq_false ha, sub1 (by omega) (by omega) h2]
    by_cases hb : x - (c.Key.size : Int) - (c.Value.size : Int) < 0
    · rw [decide_eq_true hb]; exact ⟨_, rfl, by omega⟩
    · rw [decide_eq_false hb]; exact ⟨_, rfl, by omega⟩
theorem szr (N : Nat) (c : Reply) (x : Int) (h1 : c.Value.size ≤ maxLen) (h : 0 ≤ x) (hx : x ≤ 1048576) : ∃ y : Int, F68.m N c x = some y ∧ y ≤ 1048576 := by
  unfold F68.m
  rw [sub1 h hx h1]
  by_cases ha : x - (c.Value.size : Int) < 0
  · rw [decide_eq_true ha]; exact ⟨_, rfl, by omega⟩
  · rw [decide_eq_false ha]; exact ⟨_, rfl, by omega⟩
theorem sz1 (N : Nat) (c : CallRecord) (x : Int) (hc : OKc c) (h : 0 ≤ x) (hx : x ≤ 1048576) : ∃ y : Int, F36.m N c x = some y ∧ y ≤ 1048576 := by
  obtain ⟨y, hy, hy2⟩ := szk N c.Command x hc.1 hc.2.1 h hx
  unfold F36.m
  change ∃ y, ob (F67.m N c.Command x) _ = some y ∧ _
  rw [hy, ob_some]
  by_cases ha : y < 0
  · rw [decide_eq_true ha]; exact ⟨_, rfl, by omega⟩
  · rw [decide_eq_false ha, cond_false]
    obtain ⟨z, hz, hz2⟩ := szr N c.Answer y hc.2.2 (by omega) hy2
    change ∃ z, ob (F68.m N c.Answer y) _ = some z ∧ _
    rw [hz, ob_some]
    by_cases hb : z < 0
    · rw [decide_eq_true hb]; exact ⟨_, rfl, by omega⟩
    · rw [decide_eq_false hb]; exact ⟨_, rfl, hz2⟩
theorem szs (N : Nat) (a : List CallRecord) (hok : ∀ c ∈ a, OKc c) (h : a.length ≤ maxLen) (hN : 1048576 < N) : ∃ y : Int, F13.m N a 1048576 = some y ∧ (0 ≤ y → a.length ≤ 1048576) := by
  unfold F13.m
  have hm : maxLen ≤ 9223372036854775807 := by decide
  rw [w64_eq (by omega) (by omega)]
  by_cases hb : 1048576 - (a.length : Int) < 0
  · rw [decide_eq_true hb, cond_true]; exact ⟨_, rfl, by omega⟩
  · rw [decide_eq_false hb, cond_false]
    have hl : a.length ≤ 1048576 := by omega
    have : ∃ y : Int, F13.lp5 N a 1048576 (1048576 - (a.length : Int), 0) = some y := by
      refine miter_all (p := fun r => ∃ z : Int, r = some z) (fun (v : Int × Int) => a.length - v.2.toNat) (fun (v : Int × Int) => 0 ≤ v.1 ∧ v.1 ≤ 1048576 ∧ 0 ≤ v.2 ∧ v.2 ≤ a.length) (fun v hv rec hrec => ?_) N _ ⟨by omega, by omega, by omega, by omega⟩ (by simp; omega)
      obtain ⟨v1, v2⟩ := v
      obtain ⟨h1, h2, h3, h4⟩ := hv
      dsimp only at h1 h2 h3 h4
      simp only [F13.step5]
      by_cases hlt : v2 < (a.length : Int)
      · simp only [hlt, h3, decide_true, cond_true]
        obtain ⟨y, hy, hy2⟩ := sz1 N (a.getD (Int.toNat v2) CallRecord.dz) v1 (by
          have hi : Int.toNat v2 < a.length := by omega
          rw [getD_eq hi]
          exact hok _ (List.getElem_mem hi)) h1 h2
        show ∃ z, ob (F36.m N (a.getD (Int.toNat v2) CallRecord.dz) v1) _ = some z
        rw [hy, ob_some]
        by_cases hy0 : y < 0
        · rw [decide_eq_true hy0, cond_true]; exact ⟨_, rfl⟩
        · rw [decide_eq_false hy0, cond_false, w64_eq (by omega) (by omega)]
          exact hrec _ ⟨by dsimp only; omega, hy2, by dsimp only; omega, by dsimp only; omega⟩ (by dsimp only; omega)
      · simp only [hlt, decide_false, cond_false]
        exact ⟨_, rfl⟩
    obtain ⟨y, hy⟩ := this
    exact ⟨y, hy, fun _ => hl⟩
theorem pure4 (a0 : List CallRecord) (a1 : Int) (h0 : ∃ n, WfE E (WfA E n) (.slice 71 (.st 71)) a0) (h1 : ∃ n, WfE E (WfA E n) (.int .i64) a1) : ∃ N, F4.m N a0 a1 = some true := by
  obtain ⟨n, h0⟩ := h0
  have hlen : a0.length ≤ maxLen := by
    cases n with
    | zero => exact h0.elim
    | succ n => exact h0.1
  have hok : ∀ c ∈ a0, OKc c := by
    intro c hc
    cases n with
    | zero => exact h0.elim
    | succ n =>
      have := h0.2 c hc
      obtain ⟨_, _, _, _, _, _, k, v, _, _, w, _⟩ := this
      refine ⟨?_, ?_, ?_⟩
      · cases n <;> exact k
      · cases n <;> exact v
      · cases n <;> exact w
  refine ⟨1048577, ?_⟩
  obtain ⟨y, hy, hyl⟩ := szs 1048577 a0 hok hlen (by omega)
  unfold F4.m
  rw [hy, ob_some]
  by_cases hy0 : y < 0
  · rw [decide_eq_true hy0, cond_true]
  · rw [decide_eq_false hy0, cond_false]
    have hl := hyl (by omega)
    have ht := toCs 1048577 a0 hl (by omega)
    rw [ht]
    simp only [ob_some]
    obtain ⟨z, hz⟩ := pend 1048577 a0 a1 hl (by omega)
    have hz' : F42.m 1048577 a0 a1 = some z := hz
    have hsame : ∃ r, F14.m 1048577 a0 a1 = some r ∧ F16.m 1048577 a0 a1 = some r := by
      unfold F14.m F16.m F40.m F37.m F41.m
      rw [hz, hz']
      simp only [ob_some]
      by_cases hb : (a0.length : Int) > 4096
      · have : ¬ ((a0.length : Int) ≤ 4096) := by omega
        rw [decide_eq_true hb, decide_eq_false this]
        exact ⟨_, rfl, rfl⟩
      · have : (a0.length : Int) ≤ 4096 := by omega
        rw [decide_eq_false hb, decide_eq_true this]
        simp only [cond_false, Bool.not_true]
        cases decide (a1 ≥ 0) <;> cases decide (a1 ≤ 2) <;> cases decide (z < 0) <;> exact ⟨_, rfl, rfl⟩
    obtain ⟨r, hr1, hr2⟩ := hsame
    rw [hr1, hr2]
    simp only [ob_some, bne_self_eq_false, cond_false]
    rw [eqCs 1048577 a0 hl (by omega)]
    rfl
end Mir.Y
