/- Pure laws: CommitsAgree. -/
import Derived.Test.YtbepkbaemapkjaaKL6
import Derived.Laws.Strings
namespace Mir.Y
set_option linter.unusedVariables false
set_option linter.unusedSimpArgs false
open Go
theorem seqEq {a b : ByteArray} : seq a b = true ↔ a = b := by
  constructor
  · intro h
    unfold seq at h
    have e1 := ByteArray.toList_eq a
    have e2 := ByteArray.toList_eq b
    rw [e1, e2, beq_iff_eq] at h
    cases a; cases b
    simp only at h
    exact congrArg _ (Array.toList_inj.1 h)
  · rintro rfl; exact seq_self a
def eqK (x y : Entry) : Bool := (x.Term == y.Term) && ((x.Kind == y.Kind) && (seq x.Data y.Data))
theorem eqK_iff {x y : Entry} : eqK x y = true ↔ x = y := by
  unfold eqK
  simp only [Bool.and_eq_true, beq_iff_eq, seqEq]
  cases x; cases y
  simp
/-! ### Maps -/
theorem mpIdx_append {α : Type} {n m : Int} {x : α} : ∀ {es : List (Int × α)}, mpIdx n es = none → mpIdx m (es ++ [(n, x)]) = match mpIdx m es with | some j => some j | none => if m = n then some es.length else none
  | [], _ => by
    unfold mpIdx
    simp only [List.nil_append]
    unfold mpIdx
    by_cases h : m = n <;> simp [h, mpIdx]
  | e :: r, h => by
    unfold mpIdx at h
    split at h
    · cases h
    · have h' : mpIdx n r = none := by simpa using h
      simp only [List.cons_append]
      unfold mpIdx
      by_cases hm : m = e.1
      · simp [hm]
      · simp only [hm, if_false]
        rw [mpIdx_append h']
        cases mpIdx m r with
        | some j => rfl
        | none => by_cases hmn : m = n <;> simp [hmn]
theorem mpIdx_key {α : Type} {n : Int} : ∀ {es : List (Int × α)} {j : Nat}, mpIdx n es = some j → ∃ h : j < es.length, es[j].1 = n
  | [], _, h => by cases h
  | e :: r, j, h => by
    unfold mpIdx at h
    split at h
    · cases h; rename_i he; exact ⟨by simp, he.symm⟩
    · obtain ⟨i, hi, rfl⟩ := Option.map_eq_some_iff.1 h
      obtain ⟨h1, h2⟩ := mpIdx_key hi
      exact ⟨by simp; omega, by simpa using h2⟩
theorem mpIdx_set {α : Type} {n m : Int} {x : α} : ∀ {es : List (Int × α)} {j : Nat}, mpIdx n es = some j → mpIdx m (es.set j (n, x)) = mpIdx m es
  | [], _, h => by cases h
  | e :: r, j, h => by
    have hk := h
    unfold mpIdx at h
    split at h
    · cases h
      rename_i he
      simp only [List.set_cons_zero]
      unfold mpIdx
      rw [he]
    · obtain ⟨i, hi, rfl⟩ := Option.map_eq_some_iff.1 h
      simp only [List.set_cons_succ]
      unfold mpIdx
      rw [mpIdx_set hi]
theorem mpGet_set {α : Type} (n m : Int) (x : α) (es : List (Int × α)) : mpGet m (mpSet n x es) = if m = n then some x else mpGet m es := by
  unfold mpSet
  cases hj : mpIdx n es with
  | none =>
    simp only
    unfold mpGet
    rw [mpIdx_append hj]
    by_cases hm : m = n
    · subst hm
      rw [hj]; simp
    · rw [if_neg hm]
      cases hk : mpIdx m es with
      | none => simp [hm]
      | some j =>
        obtain ⟨h1, _⟩ := mpIdx_key hk
        simp [List.getElem?_append_left h1, hm]
  | some j =>
    simp only
    obtain ⟨h1, h2⟩ := mpIdx_key hj
    unfold mpGet
    rw [mpIdx_set hj]
    by_cases hm : m = n
    · subst hm
      rw [hj]; simp [h1]
    · rw [if_neg hm]
      cases hk : mpIdx m es with
      | none => rfl
      | some i =>
        obtain ⟨h3, h4⟩ := mpIdx_key hk
        have hij : j ≠ i := by rintro rfl; exact hm (h4.symm.trans h2)
        simp [List.getElem?_set_ne hij]
/-! ### The first of each place -/
def dk (a : List Done) (i : Nat) : Done := a.getD i Done.dz
theorem dke (a : List Done) (i : Nat) : a.getD i Done.dz = dk a i := rfl
def mpL (a : List Done) : Nat → List (Int × Entry)
  | 0 => []
  | i + 1 => mpSet (dk a i).Index (dk a i).Entry (mpL a i)
def getK (a : List Done) : Nat → Int → Option Entry
  | 0, _ => none
  | i + 1, k => if k = (dk a i).Index then some (dk a i).Entry else getK a i k
theorem getK_eq (a : List Done) : ∀ (i : Nat) (k : Int), mpGet k (mpL a i) = getK a i k
  | 0, _ => rfl
  | i + 1, k => by
    show mpGet k (mpSet _ _ (mpL a i)) = if k = (dk a i).Index then _ else getK a i k
    rw [mpGet_set, getK_eq a i k]
theorem getK_spec (a : List Done) : ∀ (i : Nat) (k : Int), (getK a i k = none ∧ ∀ j, j < i → (dk a j).Index ≠ k) ∨ ∃ j, j < i ∧ (dk a j).Index = k ∧ getK a i k = some (dk a j).Entry ∧ ∀ l, j < l → l < i → (dk a l).Index ≠ k
  | 0, _ => .inl ⟨rfl, fun j h => by omega⟩
  | i + 1, k => by
    unfold getK
    by_cases h : k = (dk a i).Index
    · rw [if_pos h]
      exact .inr ⟨i, by omega, h.symm, rfl, fun l h1 h2 => by omega⟩
    · rw [if_neg h]
      rcases getK_spec a i k with ⟨h1, h2⟩ | ⟨j, h1, h2, h3, h4⟩
      · refine .inl ⟨h1, fun j hj => ?_⟩
        by_cases e : j = i
        · subst e; exact fun e => h e.symm
        · exact h2 j (by omega)
      · refine .inr ⟨j, by omega, h2, h3, fun l hl hl2 => ?_⟩
        by_cases e : l = i
        · subst e; exact fun e => h e.symm
        · exact h4 l hl (by omega)
def okI (a : List Done) (i : Nat) : Bool := match getK a i (dk a i).Index with
  | none => true
  | some e => eqK e (dk a i).Entry
def cP (a : List Done) (i j : Nat) : Bool := !((dk a i).Index == (dk a j).Index) || eqK (dk a i).Entry (dk a j).Entry
def prB (p : Nat → Nat → Bool) (n : Nat) : Bool := allF (fun i => allF (p i) 0 i) 0 n
theorem agree_eq (a : List Done) (n : Nat) : allF (okI a) 0 n = prB (cP a) n := by
  rw [Bool.eq_iff_iff]
  unfold prB
  rw [allF_iff, allF_iff]
  constructor
  · intro h i _ hi
    have hi : i < n := by omega
    revert hi
    induction i using Nat.strongRecOn with
    | _ i ih =>
      intro hi
      rw [allF_iff]
      intro j _ hj
      have hj : j < i := by omega
      unfold cP
      by_cases he : (dk a i).Index = (dk a j).Index
      · have hb : ((dk a i).Index == (dk a j).Index) = true := by simp [he]
        rw [hb, Bool.not_true, Bool.false_or, eqK_iff]
        have ho := h i (Nat.zero_le _) (by omega)
        unfold okI at ho
        rcases getK_spec a i (dk a i).Index with ⟨_, h2⟩ | ⟨q, h1, h2, h3, h4⟩
        · exact absurd he.symm (h2 j hj)
        · rw [h3] at ho
          have ho := eqK_iff.1 ho
          rcases Nat.lt_trichotomy j q with hjq | rfl | hjq
          · have := ih q h1 (Nat.zero_le _) (by omega) (by omega)
            rw [allF_iff] at this
            have := this j (Nat.zero_le _) (by omega)
            unfold cP at this
            have hb2 : ((dk a q).Index == (dk a j).Index) = true := by rw [h2, he]; simp
            rw [hb2, Bool.not_true, Bool.false_or, eqK_iff] at this
            rw [← ho, this]
          · exact ho.symm
          · exact absurd he.symm (h4 j hjq hj)
      · have hb : ((dk a i).Index == (dk a j).Index) = false := by simp [he]
        rw [hb]; rfl
  · intro h i _ hi
    have := h i (Nat.zero_le _) hi
    rw [allF_iff] at this
    unfold okI
    rcases getK_spec a i (dk a i).Index with ⟨h1, _⟩ | ⟨q, h1, h2, h3, _⟩
    · rw [h1]
    · rw [h3]
      have hq := this q (Nat.zero_le _) (by omega)
      unfold cP at hq
      have hb : ((dk a i).Index == (dk a q).Index) = true := by rw [h2]; simp
      rw [hb, Bool.not_true, Bool.false_or, eqK_iff] at hq
      exact eqK_iff.2 hq.symm
theorem specAgree {N : Nat} (hN : Big N) (x : Group) (h : GroupSz x) : spec_CommitsAgree.m N x = some (bif grpB x then (prB (cP x.Dones) x.Dones.length, 0) else (false, 1)) := by
  unfold spec_CommitsAgree.m
  rw [specGroup hN x h, ob_some]
  cases grpB x with
  | false => rfl
  | true =>
    simp only [Bool.not_true, cond_false, cond_true]
    have hd := h.Dones
    have hd2 := hd
    simp only [M20] at hd2
    have h7 : ∀ (r4 : Int × List Node × List Message × List Lead × List Done → Option (Bool × Int)) (i : Nat), i < x.Dones.length → spec_CommitsAgree.lp7 N x r4 ((i : Int), 0, x.Nodes, x.Wire, x.Leads, x.Dones) = bif allF (cP x.Dones i) 0 i then r4 (((i + 1 : Nat) : Int), x.Nodes, x.Wire, x.Leads, x.Dones) else some (false, 0) := by
      intro r4 i hi
      unfold spec_CommitsAgree.lp7
      have := loop_all (step := fun rec => spec_CommitsAgree.step7 N x r4 rec) (n := i) (st := fun j => ((i : Int), (j : Int), x.Nodes, x.Wire, x.Leads, x.Dones)) (p := fun j => cP x.Dones i j) (f := some (false, 0)) (t := r4 (((i + 1 : Nat) : Int), x.Nodes, x.Wire, x.Leads, x.Dones)) (fun j hj rec => by
        simp only [spec_CommitsAgree.step7, lt_dec hj, lt_dec hi, lt_dec (show j < x.Dones.length by omega), nn_dec, cond_true, Int.toNat_natCast, dke]
        rw [w_up j _ (show j < x.Dones.length by omega) hd]
        unfold cP eqK
        cases ((dk x.Dones i).Index == (dk x.Dones j).Index) with
        | false => rfl
        | true =>
          simp only [cond_true, Bool.not_true, Bool.false_or]
          generalize ((dk x.Dones i).Entry.Term == (dk x.Dones j).Entry.Term && ((dk x.Dones i).Entry.Kind == (dk x.Dones j).Entry.Kind && seq (dk x.Dones i).Entry.Data (dk x.Dones j).Entry.Data)) = b
          cases b <;> rfl) (fun rec => by
        simp only [spec_CommitsAgree.step7, ge_dec, cond_false]
        rw [w_up i _ hi hd]) i 0 N (by omega) (by omega)
      exact this
    unfold spec_CommitsAgree.lp4
    have := loop_all (step := fun rec => spec_CommitsAgree.step4 N x (spec_CommitsAgree.lp7 N x rec) rec) (n := x.Dones.length) (st := fun i => ((i : Int), x.Nodes, x.Wire, x.Leads, x.Dones)) (p := fun i => allF (cP x.Dones i) 0 i) (f := some (false, 0)) (t := some (true, 0)) (fun i hi rec => by
      simp only [spec_CommitsAgree.step4, lt_dec hi, cond_true]
      exact h7 rec i hi) (fun rec => by simp [spec_CommitsAgree.step4]) x.Dones.length 0 N (by omega) (by omega)
    refine (show _ = _ from this).trans ?_
    unfold prB
    cases allF (fun i => allF (cP x.Dones i) 0 i) 0 x.Dones.length <;> rfl
theorem implAgree {N : Nat} (hN : Big N) (x : Group) (h : GroupSz x) : impl_CommitsAgree.m N x = some (bif grpB x then (allF (okI x.Dones) 0 x.Dones.length, 0) else (false, 1)) := by
  unfold impl_CommitsAgree.m
  rw [implGroup hN x h, ob_some]
  cases grpB x with
  | false => rfl
  | true =>
    simp only [Bool.not_true, cond_false, cond_true]
    have hd := h.Dones
    have hd2 := hd
    simp only [M20] at hd2
    unfold impl_CommitsAgree.lp5
    have := loop_all (step := fun rec => impl_CommitsAgree.step5 N x rec) (n := x.Dones.length) (st := fun i => ((x.Dones.length : Int), (i : Int), mpL x.Dones i)) (p := okI x.Dones) (f := some (false, 0)) (t := some (true, 0)) (fun i hi rec => by
      simp only [impl_CommitsAgree.step5, lt_dec hi, nn_dec, cond_true, Int.toNat_natCast, dke, getK_eq]
      rw [w_up i _ hi hd]
      unfold okI
      cases getK x.Dones i (dk x.Dones i).Index with
      | none => rfl
      | some e =>
        simp only [Option.isSome_some, Option.getD_some, cond_true]
        show (bif !(eqK e (dk x.Dones i).Entry) then some (false, 0) else _) = _
        cases eqK e (dk x.Dones i).Entry <;> rfl) (fun rec => by simp [impl_CommitsAgree.step5]) x.Dones.length 0 N (by omega) (by omega)
    refine (show _ = _ from this).trans ?_
    cases allF (okI x.Dones) 0 x.Dones.length <;> rfl
theorem pureCommitsAgree (a0 : Group) (h0 : ∃ n, WfE E (WfA E n) (.st 27) a0) : ∃ N, laws_FnExactCommitsAgree.m N a0 = some true := by
  refine ⟨16777216, ?_⟩
  generalize hN' : 16777216 = N
  have hN : Big N := by omega
  unfold laws_FnExactCommitsAgree.m
  obtain ⟨y, e, _, hy⟩ := szGroup hN a0 1048576 (by omega) (by omega) (wfGroup h0)
  rw [groupEta, e, ob_some]
  by_cases h : y < 0
  · rw [decide_eq_true h]; rfl
  rw [decide_eq_false h, cond_false]
  have hs := hy (by omega)
  simp only [groupEta, toGroup hN a0 hs, ob_some, specAgree hN a0 hs, implAgree hN a0 hs, eqGroup hN a0 hs]
  rw [agree_eq]
  simp only [beq_self_eq_true, bne_self_eq_false, Bool.not_true, cond_false]
end Mir.Y
