/- Pure laws: MembersOf, ConfigAllowed. -/
import Derived.Test.YtigmgeablmomnaaVL4
namespace Mir.Y
set_option linter.unusedVariables false
set_option linter.unusedSimpArgs false
open Go
/-! ### The members that a log gives -/
def memL (a : List Entry) (s : List Int) : Nat → List Int
  | 0 => s
  | n + 1 => bif (ex a n).Kind == 2 then bl (ex a n).Data (ex a n).Data.size else memL a s n
theorem memL_length {a : List Entry} {s : List Int} (hs : s.length ≤ M20) (hd : ∀ x ∈ a, x.Data.size ≤ M20) : ∀ n, n ≤ a.length → (memL a s n).length ≤ M20
  | 0, _ => hs
  | n + 1, h => by
    unfold memL
    cases (ex a n).Kind == 2 with
    | true => rw [cond_true, bl_length]; exact ex_size hd (by omega)
    | false => exact memL_length hs hd n (by omega)
def allMem (a : List Entry) : Prop := ∀ j, j < a.length → ((ex a j).Kind == 2) = true → memB (ex a j).Data = true
theorem l10Members {N : Nat} (hN : Big N) (x : Node) (h : x.Log.length ≤ M20) (hd : NodeData x) (hm : allMem x.Log) : spec_l10Members.m N x = some (memL x.Log x.Start x.Log.length) := by
  unfold spec_l10Members.m spec_l10Members.lp2
  have e : w64 ((x.Log.length : Int) - 1) = (x.Log.length : Int) - 1 := w_small (by omega) (by simp only [M20] at h; omega)
  rw [e]
  have : ∀ (n K : Nat), n ≤ x.Log.length → n < K → miter (fun rec => spec_l10Members.step2 N x rec) K ((n : Int) - 1) = some (memL x.Log x.Start n) := by
    intro n
    induction n with
    | zero =>
      intro K _ hK
      obtain ⟨K, rfl⟩ : ∃ L, K = L + 1 := ⟨K - 1, by omega⟩
      rfl
    | succ n ih =>
      intro K hn hK
      obtain ⟨K, rfl⟩ : ∃ L, K = L + 1 := ⟨K - 1, by omega⟩
      show spec_l10Members.step2 N x (miter (fun rec => spec_l10Members.step2 N x rec) K) _ = _
      have e1 : ((n + 1 : Nat) : Int) - 1 = (n : Int) := by omega
      have e2 : w64 ((n : Int) - 1) = (n : Int) - 1 := w_small (by omega) (by simp only [M20] at h; omega)
      rw [e1]
      simp only [spec_l10Members.step2, decide_eq_true (show (n : Int) ≥ 0 by omega), nn_dec, lt_dec (show n < x.Log.length by omega), cond_true, Int.toNat_natCast, exe, e2, memL]
      cases hk : (ex x.Log n).Kind == 2 with
      | true =>
        rw [cond_true, cond_true, l02Members hN _ (ex_size hd (by omega)), ob_some]
        have := hm n (by omega) hk
        unfold memB at this
        rw [Bool.and_eq_true] at this
        rw [this.1]; rfl
      | false => rw [cond_false, cond_false, ih K (by omega) (by omega)]
  exact this _ N (Nat.le_refl _) (by simp only [M20] at h; omega)
theorem memFind (a : List Entry) (s : List Int) : ∀ n, n ≤ a.length → ((a.take n).reverse.find? (fun e => e.Kind == 2)).elim s (fun e => bl e.Data e.Data.size) = memL a s n
  | 0, _ => by simp [memL]
  | n + 1, h => by
    have ht : a.take (n + 1) = a.take n ++ [a[n]] := by rw [List.take_add_one, List.getElem?_eq_getElem (by omega)]; rfl
    have e : ex a n = a[n] := by rw [ex, getD_at (show n < a.length by omega)]
    rw [ht, List.reverse_append, List.reverse_singleton, List.singleton_append, List.find?_cons, memL, e]
    cases a[n].Kind == 2 with
    | true => rfl
    | false => exact memFind a s n (by omega)
theorem implMembers {N : Nat} (hN : Big N) (x : Node) (h : NodeSz x M20) (hd : NodeData x) : impl_Node_members.m N x = some (memL x.Log x.Start x.Log.length) := by
  unfold impl_Node_members.m
  have hl := h.Log
  have e1 : decide (x.Log.length ≤ 1048576000) = true := decide_eq_true (by simp only [M20] at hl; omega)
  have e2 : x.Log.all (fun e => !(e.Kind == 2) || (impl_readMembers.m N e.Data).isSome) = true := by
    rw [List.all_eq_true]
    intro e he
    rw [readMembers hN _ (hd e he)]
    cases e.Kind == 2 <;> rfl
  rw [e1, e2, Bool.and_self, cond_true]
  have e3 := memFind x.Log x.Start x.Log.length (Nat.le_refl _)
  rw [List.take_length] at e3
  rw [← e3]
  generalize hf : x.Log.reverse.find? (fun e => e.Kind == 2) = o
  cases o with
  | none => exact cloneInt N _ h.Start
  | some e =>
    have he : e ∈ x.Log := by
      have := List.mem_of_find?_eq_some hf
      exact List.mem_reverse.mp this
    show (impl_readMembers.m N e.Data).map (·.1) = _
    rw [readMembers hN _ (hd e he)]; rfl
theorem okMem {x : Node} (h : okB x = true) : allMem x.Log := by
  unfold okB at h
  rw [Bool.and_eq_true, Bool.and_eq_true] at h
  have hs := h.2.1
  unfold stB at hs
  rw [Bool.and_eq_true, Bool.and_eq_true, Bool.and_eq_true] at hs
  have hl : logB x.Log x.Term = true := hs.2.2.2
  unfold logB at hl
  rw [allF_iff] at hl
  intro j hj hk
  have := hl j (Nat.zero_le _) (by omega)
  rw [Bool.and_eq_true] at this
  have he := this.1
  unfold entB at he
  rw [Bool.and_eq_true] at he
  have e2 : (ex x.Log j).Kind = 2 := by simpa using hk
  have he2 := he.2
  rw [e2] at he2
  exact he2
def memR (x : Node) : List Int × Int := bif okB x then (memL x.Log x.Start x.Log.length, 0) else ([], 1)
theorem memR_length {x : Node} (h : NodeSz x M20) (hd : NodeData x) : (memR x).1.length ≤ 1048576 := by
  unfold memR
  cases okB x with
  | true => exact memL_length h.Start hd _ (Nat.le_refl _)
  | false => exact Nat.zero_le _
theorem specMem {N : Nat} (hN : Big N) (x : Node) (h : NodeSz x M20) (hd : NodeData x) : spec_MembersOf.m N x = some (memR x) := by
  unfold spec_MembersOf.m memR
  rw [specOK hN x h hd, ob_some]
  cases hk : okB x with
  | true =>
    rw [l10Members hN x h.Log hd (okMem hk), ob_some]
    have : (memL x.Log x.Start x.Log.length).length ≤ M20 := memL_length h.Start hd _ (Nat.le_refl _)
    rw [roomB (by rw [List.length_nil, Nat.zero_add]; exact this) (by omega)]
    rfl
  | false => rfl
theorem implMem {N : Nat} (hN : Big N) (x : Node) (h : NodeSz x M20) (hd : NodeData x) : impl_MembersOf.m N x = some (memR x) := by
  unfold impl_MembersOf.m memR
  rw [nodeEta, implOK hN x h hd, ob_some, implMembers hN x h hd]
  cases okB x <;> rfl
theorem markNode1 {N : Nat} (hN : Big N) (x : Node) (c : Int) (h : NodeSz x 1048576) (h0 : 0 ≤ c) (hc : c ≤ 1000000) : ∃ k y, laws_markNode.m N x c = some (k, y) ∧ c ≤ k := by
  have cnt : ∀ {k : Int} {a : List Int}, 0 ≤ k → k ≤ 7340032 → a.length ≤ 1048576 → (marks fInt k a).1 = k + a.length := fun hk hk2 ha => by
    rw [marks_count fInt_count (by omega) (by omega) hk (by omega)]; omega
  have cE : (marks (fEnt N) c x.Log).1 = c + 3 * x.Log.length := marks_count (fEnt_count N) (by omega) (by omega) h0 (by have := h.Log; omega)
  obtain ⟨l1, l2, l3, l4, l5⟩ := h
  have e2 := cnt (k := (marks (fEnt N) c x.Log).1) (by omega) (by omega) l2
  have e3 := cnt (k := (marks fInt (marks (fEnt N) c x.Log).1 x.Start).1) (by omega) (by omega) l3
  have e4 := cnt (k := (marks fInt (marks fInt (marks (fEnt N) c x.Log).1 x.Start).1 x.Votes).1) (by omega) (by omega) l4
  have e5 := cnt (k := (marks fInt (marks fInt (marks fInt (marks (fEnt N) c x.Log).1 x.Start).1 x.Votes).1 x.Next).1) (by omega) (by omega) l5
  unfold laws_markNode.m
  simp only [markEntryS hN x.Log c l1 h0 (by omega), ob_some, markIntS hN _ _ l2, markIntS hN _ _ l3, markIntS hN _ _ l4, markIntS hN _ _ l5]
  exact ⟨_, _, rfl, by omega⟩
theorem pureMembersOf (a0 : Node) (h0 : ∃ n, WfE E (WfA E n) (.st 36) a0) : ∃ N, laws_FnExactMembersOf.m N a0 = some true := by
  refine ⟨16777216, ?_⟩
  generalize hN' : 16777216 = N
  have hN : Big N := by omega
  unfold laws_FnExactMembersOf.m
  obtain ⟨y, e, _, hy⟩ := szNode hN a0 1048576 (by omega) (by omega) (wfNode h0)
  rw [nodeEta, e, ob_some]
  by_cases h : y < 0
  · rw [decide_eq_true h]; rfl
  rw [decide_eq_false h, cond_false]
  obtain ⟨hs, hd⟩ := hy (by omega)
  simp only [toNode hN a0 hs, ob_some, specMem hN a0 hs hd, implMem hN a0 hs hd]
  have hc := memR_length hs hd
  generalize memR a0 = r at hc
  obtain ⟨k1, y1, hm1, hk1⟩ := markNode1 hN a0 1 hs (by omega) (by omega)
  have c1 : (marks fInt 1 r.1).1 = 1 + r.1.length := by rw [marks_count fInt_count (by omega) (by omega) (by omega) (by omega)]; omega
  simp only [eqNode hN a0 hs, eqIntS hN r.1 hc, hm1, ob_some, markIntS hN r.1 1 hc, heldIntS hN r.1 1 hc, Bool.not_true, cond_false, bne_self_eq_false, decide_eq_false (show ¬ k1 < 0 by omega), decide_eq_false (show ¬ (marks fInt 1 r.1).1 < 0 by omega)]
/-! ### ConfigAllowed -/
def hasB (a : List Int) (x : Int) : Bool := !allF (fun j => !(ix a j == x)) 0 a.length
theorem l10Has {N : Nat} (hN : Big N) (a : List Int) (x : Int) (h : a.length ≤ M20) : spec_l10Has.m N a x = some (hasB a x) := by
  unfold spec_l10Has.m spec_l10Has.lp2
  have := loop_all (step := fun rec => spec_l10Has.step2 N a x rec) (n := a.length) (st := fun i => (i : Int)) (p := fun i => !(ix a i == x)) (f := some true) (t := some false) (fun i hi rec => by
    simp only [spec_l10Has.step2, lt_dec hi, nn_dec, cond_true, Int.toNat_natCast, ixe]
    rw [w_up i _ hi h]
    cases ix a i == x <;> rfl) (fun rec => by simp [spec_l10Has.step2]) a.length 0 N (by omega) (by simp only [M20] at h; omega)
  refine (show _ = _ from this).trans ?_
  unfold hasB
  cases allF _ 0 a.length <;> rfl
theorem contains {N : Nat} (hN : Big N) (a : List Int) (x : Int) (h : a.length ≤ M20) : slices_Contains_int_int.m N a x = some (hasB a x) := by
  unfold slices_Contains_int_int.m slices_Index_int_int.m slices_Index_int_int.lp2
  obtain ⟨y, hy, hd⟩ := loop_idx (step := fun rec => slices_Index_int_int.step2 N a x rec) (n := a.length) (st := fun i => ((a.length : Int), (i : Int))) (p := fun i => ix a i == x) (fun i hi rec => by
    simp only [slices_Index_int_int.step2, lt_dec hi, nn_dec, cond_true, Int.toNat_natCast, ixe]
    rw [w_up i _ hi h]
    have : (x == ix a i) = (ix a i == x) := by exact Bool.eq_iff_iff.mpr (by rw [beq_iff_eq, beq_iff_eq]; exact eq_comm)
    rw [this]) (fun rec => by simp [slices_Index_int_int.step2]) a.length 0 N (by omega) (by simp only [M20] at h; omega)
  have hy : miter (fun rec => slices_Index_int_int.step2 N a x rec) N ((a.length : Int), 0) = some y := hy
  rw [hy, ob_some, hd]; rfl
def cnB (d : Nat → Bool) : Nat → Nat
  | 0 => 0
  | i + 1 => cnB d i + (d i).toNat
theorem cnB_le (d : Nat → Bool) : ∀ n, cnB d n ≤ n
  | 0 => Nat.le_refl _
  | n + 1 => by
    have := cnB_le d n
    have h1 : (d n).toNat ≤ 1 := by cases d n <;> decide
    show cnB d n + (d n).toNat ≤ n + 1
    omega
def dif (a b : List Int) (i : Nat) : Bool := !(hasB a (i : Int) == hasB b (i : Int))
theorem allF_shift (q : Nat → Bool) (c k : Nat) : allF (fun j => q (c + j)) 0 k = allF q c k := by
  rw [Bool.eq_iff_iff, allF_iff, allF_iff]
  constructor
  · intro h j h1 h2
    have := h (j - c) (Nat.zero_le _) (by omega)
    rw [show c + (j - c) = j by omega] at this
    exact this
  · intro h j h1 h2
    exact h (c + j) (by omega) (by omega)
def calm (x : Node) : Bool := allF (fun j => !((ex x.Log j).Kind == 2)) x.Commit.toNat (x.Log.length - x.Commit.toNat)
def alwB (x : Node) (a : List Int) : Bool := ((cnB (dif (memL x.Log x.Start x.Log.length) a) 7 : Nat) : Int) == 1 && ((x.Role == 2) && (!(x.Commit == 0) && (((ex x.Log (x.Commit - 1).toNat).Term == x.Term) && calm x)))
theorem specAlw {N : Nat} (hN : Big N) (x : Node) (a : List Int) (h : NodeSz x M20) (hd : NodeData x) (hm : allMem x.Log) (ha : a.length ≤ M20) (h0 : 0 ≤ x.Commit) (h1 : x.Commit ≤ x.Log.length) : spec_l11Allowed.m N x a = some (alwB x a) := by
  unfold spec_l11Allowed.m
  rw [l10Members hN x h.Log hd hm, ob_some]
  unfold spec_l11Allowed.lp4
  have hl := h.Log
  have hml : (memL x.Log x.Start x.Log.length).length ≤ M20 := memL_length h.Start hd _ (Nat.le_refl _)
  generalize hM : memL x.Log x.Start x.Log.length = M at hml
  have hc : spec_l11Allowed.lp10 N x a x.Commit = some (calm x) := by
    unfold spec_l11Allowed.lp10
    have := loop_all (step := fun rec => spec_l11Allowed.step10 N x a rec) (n := x.Log.length) (st := fun i => (i : Int)) (p := fun j => !((ex x.Log j).Kind == 2)) (f := some false) (t := some true) (fun i hi rec => by
      simp only [spec_l11Allowed.step10, lt_dec hi, nn_dec, cond_true, Int.toNat_natCast, exe]
      rw [w_up i _ hi hl]
      cases (ex x.Log i).Kind == 2 <;> rfl) (fun rec => by simp [spec_l11Allowed.step10]) (x.Log.length - x.Commit.toNat) x.Commit.toNat N (by omega) (by simp only [M20] at hl; omega)
    rw [Int.toNat_of_nonneg h0] at this
    refine (show _ = _ from this).trans ?_
    unfold calm
    cases allF _ x.Commit.toNat (x.Log.length - x.Commit.toNat) <;> rfl
  have := miter_up (step := fun rec => spec_l11Allowed.step4 N x a (spec_l11Allowed.lp10 N x a) rec) (n := 7) (st := fun i => (M, ((cnB (dif M a) i : Nat) : Int), (i : Int))) (r := some (alwB x a)) (fun i hi rec => by
    have b1 : spec_l01Bit.m N (dif M a i) = some (((dif M a i).toNat : Nat) : Int) := by cases dif M a i <;> rfl
    have hc := cnB_le (dif M a) i
    have ht : (dif M a i).toNat ≤ 1 := by cases dif M a i <;> simp
    have e : w64 (((cnB (dif M a) i : Nat) : Int) + (((dif M a i).toNat : Nat) : Int)) = ((cnB (dif M a) (i + 1) : Nat) : Int) := by
      rw [w_small (by omega) (by omega), show cnB (dif M a) (i + 1) = cnB (dif M a) i + (dif M a i).toNat from rfl]; omega
    simp only [spec_l11Allowed.step4, decide_eq_true (show (i : Int) < 7 by omega), cond_true, l10Has hN M _ hml, l10Has hN a _ ha, ob_some]
    rw [show (!(hasB M (i : Int) == hasB a (i : Int))) = dif M a i from rfl, b1, ob_some, e, w_up i 7 hi (by omega)]) (fun rec => by
    show spec_l11Allowed.step4 N x a (spec_l11Allowed.lp10 N x a) rec (M, _, 7) = _
    unfold alwB
    rw [hM]
    simp only [spec_l11Allowed.step4, hc, cond_false, bne]
    have e7 : decide ((7 : Int) < 7) = false := rfl
    rw [e7, cond_false]
    refine ifNot (ifNot ?_)
    by_cases hz : x.Commit = 0
    · rw [hz]; rfl
    · have e : w64 (x.Commit - 1) = x.Commit - 1 := w_small (by omega) (by simp only [M20] at hl; omega)
      rw [e, decide_eq_true (show 0 ≤ x.Commit - 1 by omega), decide_eq_true (show x.Commit - 1 < x.Log.length by omega)]
      exact ifNo (ifNot rfl)) 7 0 N (by omega) (by omega)
  exact this
theorem implAlw {N : Nat} (hN : Big N) (x : Node) (a : List Int) (h : NodeSz x M20) (hd : NodeData x) (ha : a.length ≤ M20) (h0 : 0 ≤ x.Commit) (h1 : x.Commit ≤ x.Log.length) : impl_configAllowed.m N x a = some (alwB x a) := by
  unfold impl_configAllowed.m
  rw [implMembers hN x h hd, ob_some]
  unfold impl_configAllowed.lp3
  have hl := h.Log
  have hml : (memL x.Log x.Start x.Log.length).length ≤ M20 := memL_length h.Start hd _ (Nat.le_refl _)
  generalize hM : memL x.Log x.Start x.Log.length = M at hml
  have hc : slices_ContainsFunc_impl_Entry_impl_Entry__impl_configAllowed_1.m N (x.Log.drop x.Commit.toNat) = some (!calm x) := by
    unfold slices_ContainsFunc_impl_Entry_impl_Entry__impl_configAllowed_1.m slices_IndexFunc_impl_Entry_impl_Entry__impl_configAllowed_1.m slices_IndexFunc_impl_Entry_impl_Entry__impl_configAllowed_1.lp2
    have hdl : (x.Log.drop x.Commit.toNat).length = x.Log.length - x.Commit.toNat := by simp
    generalize hD : x.Log.drop x.Commit.toNat = D at hdl
    obtain ⟨y, hy, hd⟩ := loop_idx (step := fun rec => slices_IndexFunc_impl_Entry_impl_Entry__impl_configAllowed_1.step2 N D rec) (n := D.length) (st := fun i => ((D.length : Int), (i : Int))) (p := fun i => (ex x.Log (x.Commit.toNat + i)).Kind == 2) (fun i hi rec => by
      have e : ex D i = ex x.Log (x.Commit.toNat + i) := by
        rw [← hD]; simp only [ex, List.getD_eq_getElem?_getD, List.getElem?_drop]
      simp only [slices_IndexFunc_impl_Entry_impl_Entry__impl_configAllowed_1.step2, lt_dec hi, nn_dec, cond_true, Int.toNat_natCast, exe, impl_configAllowed_1.m, ob_some, e]
      rw [w_up i _ hi (by simp only [M20] at hl; omega)]) (fun rec => by simp [slices_IndexFunc_impl_Entry_impl_Entry__impl_configAllowed_1.step2]) D.length 0 N (by omega) (by simp only [M20] at hl; omega)
    have hy : miter (fun rec => slices_IndexFunc_impl_Entry_impl_Entry__impl_configAllowed_1.step2 N D rec) N ((D.length : Int), 0) = some y := hy
    rw [hy, ob_some, hd, hdl]
    exact congrArg (fun b => some (!b)) (allF_shift (fun j => !((ex x.Log j).Kind == 2)) _ _)
  have := miter_up (step := fun rec => impl_configAllowed.step3 N x a rec) (n := 7) (st := fun i => (((cnB (dif M a) i : Nat) : Int), (i : Int), M)) (r := some (alwB x a)) (fun i hi rec => by
    have hc := cnB_le (dif M a) i
    simp only [impl_configAllowed.step3, decide_eq_true (show (i : Int) < 7 by omega), cond_true, contains hN M _ hml, contains hN a _ ha, ob_some]
    rw [show (!(hasB M (i : Int) == hasB a (i : Int))) = dif M a i from rfl, w_up i 7 hi (by omega), w_small (x := ((cnB (dif M a) i : Nat) : Int) + 1) (by omega) (by omega)]
    cases hd : dif M a i <;> simp [cnB, hd]) (fun rec => by
    show impl_configAllowed.step3 N x a rec (_, 7, M) = _
    unfold alwB
    rw [hM]
    simp only [impl_configAllowed.step3, hc, cond_false, cond_true, ob_some]
    have e7 : decide ((7 : Int) < 7) = false := rfl
    rw [e7, cond_false, decide_eq_true h0, decide_eq_true (show x.Commit ≤ ((x.Log.length : Nat) : Int) from h1), cond_true, cond_true, Bool.not_not]
    refine ifYes (ifYes ?_)
    have ez : decide (x.Commit > 0) = !(x.Commit == 0) := by rw [Bool.eq_iff_iff]; simp; omega
    rw [ez]
    by_cases hz : x.Commit = 0
    · rw [hz]; rfl
    · have e : w64 (x.Commit - 1) = x.Commit - 1 := w_small (by omega) (by simp only [M20] at hl; omega)
      have ec : (x.Commit == 0) = false := by rw [beq_eq_false_iff_ne]; exact hz
      unfold impl_Node_termAt.m
      rw [ec, e, decide_eq_true (show 0 ≤ x.Commit - 1 by omega), decide_eq_true (show x.Commit - 1 < x.Log.length by omega)]
      show (bif true then (bif ((x.Log.getD (x.Commit - 1).toNat Entry.dz).Term == x.Term) then some (calm x) else some false) else some false) = _
      exact ifYes (ifYes rfl)) 7 0 N (by omega) (by omega)
  exact this
theorem okCommit {x : Node} (h : okB x = true) : 0 ≤ x.Commit ∧ x.Commit ≤ x.Log.length := by
  unfold okB at h
  simp only [Bool.and_eq_true] at h
  have := h.2.2.2.2.2.2.2.2.1
  unfold inB at this
  simp only [Bool.and_eq_true, decide_eq_true_eq] at this
  omega
def alwR (x : Node) (a : List Int) : Bool × Int := bif decide ((a.length : Int) > 4096) then (false, 2) else bif okB x && (idsB (ix a) a.length && decide (0 < a.length)) then (alwB x a, 0) else (false, 1)
theorem specCA {N : Nat} (hN : Big N) (x : Node) (a : List Int) (h : NodeSz x M20) (hd : NodeData x) (ha : a.length ≤ M20) : spec_ConfigAllowed.m N x a = some (alwR x a) := by
  unfold spec_ConfigAllowed.m alwR
  rw [specOK hN x h hd, l10Ids hN a ha]
  simp only [ob_some, cond_false]
  have e : ((a.length : Int) == 0) = !decide (0 < a.length) := by rw [Bool.eq_iff_iff]; simp
  rw [e]
  cases hk : okB x with
  | false => cases decide ((a.length : Int) > 4096) <;> rfl
  | true =>
    rw [specAlw hN x a h hd (okMem hk) ha (okCommit hk).1 (okCommit hk).2]
    cases decide ((a.length : Int) > 4096) <;> cases idsB (ix a) a.length <;> cases decide (0 < a.length) <;> rfl
theorem implCA {N : Nat} (hN : Big N) (x : Node) (a : List Int) (h : NodeSz x M20) (hd : NodeData x) (ha : a.length ≤ M20) : impl_ConfigAllowed.m N x a = some (alwR x a) := by
  unfold impl_ConfigAllowed.m alwR impl_isList_int.m
  rw [implOK hN x h hd, membersOK hN a ha]
  simp only [ob_some, cond_false]
  have e : decide ((a.length : Int) ≤ 4096) = !decide ((a.length : Int) > 4096) := by rw [Bool.eq_iff_iff]; simp
  rw [e]
  cases hk : okB x with
  | false => cases decide ((a.length : Int) > 4096) <;> rfl
  | true =>
    rw [implAlw hN x a h hd ha (okCommit hk).1 (okCommit hk).2]
    cases decide ((a.length : Int) > 4096) <;> cases idsB (ix a) a.length <;> cases decide (0 < a.length) <;> rfl
theorem pureConfigAllowed (a0 : Node) (a1 : List Int) (h0 : ∃ n, WfE E (WfA E n) (.st 36) a0) (h1 : ∃ n, WfE E (WfA E n) (.slice 3 (.int .i64)) a1) : ∃ N, laws_FnExactConfigAllowed.m N a0 a1 = some true := by
  refine ⟨16777216, ?_⟩
  generalize hN' : 16777216 = N
  have hN : Big N := by omega
  unfold laws_FnExactConfigAllowed.m
  by_cases hl : (a1.length : Int) > 1048576
  · rw [decide_eq_true hl]; rfl
  have ha : a1.length ≤ 1048576 := by omega
  rw [decide_eq_false hl, cond_false]
  obtain ⟨y, e, _, hy⟩ := szNode hN a0 1048576 (by omega) (by omega) (wfNode h0)
  rw [e, ob_some]
  by_cases h : y < 0
  · rw [decide_eq_true h]; rfl
  rw [decide_eq_false h, cond_false]
  obtain ⟨hs, hd⟩ := hy (by omega)
  simp only [toNode hN a0 hs, toIntS hN a1 ha, ob_some, specCA hN a0 a1 hs hd ha, implCA hN a0 a1 hs hd ha, eqNode hN a0 hs, eqIntS hN a1 ha, beq_self_eq_true, bne_self_eq_false, Bool.not_true, cond_false]
end Mir.Y
