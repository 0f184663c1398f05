/- Pure laws: OneLeader, LeadersComplete. -/
import Derived.Test.YtbepkbaemapkjaaGL6
namespace Mir.Y
set_option linter.unusedVariables false
set_option linter.unusedSimpArgs false
open Go
def lx (a : List Lead) (i : Nat) : Lead := a.getD i Lead.dz
theorem lxe (a : List Lead) (i : Nat) : a.getD i Lead.dz = lx a i := rfl
theorem lx_fit {a : List Lead} (h : ∀ x ∈ a, LeadSz x) {i : Nat} (hi : i < a.length) : LeadSz (lx a i) := by
  rw [lx, getD_at hi]; exact h _ (List.getElem_mem hi)
def dx (a : List Done) (i : Nat) : Done := a.getD i Done.dz
theorem dxe (a : List Done) (i : Nat) : a.getD i Done.dz = dx a i := rfl
theorem leadEta (x : Lead) : Lead.mk x.Term x.Id x.Log = x := rfl
def oneP (a : List Lead) (i j : Nat) : Bool := bif (lx a i).Term == (lx a j).Term then !((lx a i).Id != (lx a j).Id) else true
theorem specOne {N : Nat} (hN : Big N) (x : Group) (h : GroupSz x) : spec_l12One.m N x = some (pairsB (oneP x.Leads) x.Leads.length) := by
  unfold spec_l12One.m
  have hn := h.Leads
  have hn2 := hn
  simp only [M20] at hn2
  have h7 : ∀ (r4 : Int × List Node × List Message × List Lead × List Done → Option Bool) (i : Nat), i < x.Leads.length → spec_l12One.lp5 N x r4 ((i : Int), 0, x.Nodes, x.Wire, x.Leads, x.Dones) = bif allF (oneP x.Leads i) 0 i then r4 (((i + 1 : Nat) : Int), x.Nodes, x.Wire, x.Leads, x.Dones) else some false := by
    intro r4 i hi
    unfold spec_l12One.lp5
    have := loop_all (step := fun rec => spec_l12One.step5 N x r4 rec) (n := i) (st := fun j => ((i : Int), (j : Int), x.Nodes, x.Wire, x.Leads, x.Dones)) (p := oneP x.Leads i) (f := some false) (t := r4 (((i + 1 : Nat) : Int), x.Nodes, x.Wire, x.Leads, x.Dones)) (fun j hj rec => by
      simp only [spec_l12One.step5, lt_dec hj, lt_dec hi, lt_dec (show j < x.Leads.length by omega), nn_dec, cond_true, Int.toNat_natCast, lxe]
      rw [w_up j i hj (by omega)]
      unfold oneP
      cases (lx x.Leads i).Term == (lx x.Leads j).Term <;> cases (lx x.Leads i).Id != (lx x.Leads j).Id <;> rfl) (fun rec => by
      simp only [spec_l12One.step5, ge_dec, cond_false]
      rw [w_up i _ hi hn]) i 0 N (by omega) (by omega)
    exact this
  unfold spec_l12One.lp2
  have := loop_all (step := fun rec => spec_l12One.step2 N x (spec_l12One.lp5 N x rec) rec) (n := x.Leads.length) (st := fun i => ((i : Int), x.Nodes, x.Wire, x.Leads, x.Dones)) (p := fun i => allF (oneP x.Leads i) 0 i) (f := some false) (t := some true) (fun i hi rec => by
    simp only [spec_l12One.step2, lt_dec hi, cond_true, h7 rec i hi]) (fun rec => by simp [spec_l12One.step2]) x.Leads.length 0 N (by omega) (by omega)
  refine (show _ = _ from this).trans ?_
  unfold pairsB
  cases allF (fun i => allF (oneP x.Leads i) 0 i) 0 x.Leads.length <;> rfl
theorem implOne {N : Nat} (hN : Big N) (a : List Lead) (hl : a.length ≤ M20) : impl_pairsHold_impl_Lead__impl_OneLeader_1.m N a = some (pairsB (oneP a) a.length) := by
  unfold impl_pairsHold_impl_Lead__impl_OneLeader_1.m
  have hl2 := hl
  simp only [M20] at hl2
  have h5 : ∀ (r2 : Int × Int → Option Bool) (i : Nat), i < a.length → impl_pairsHold_impl_Lead__impl_OneLeader_1.lp5 N a r2 ((a.length : Int), (i : Int), a.take i, ((a.take i).length : Int), 0, (lx a i).Term, (lx a i).Id, (lx a i).Log) = bif allF (oneP a i) 0 i then r2 ((a.length : Int), ((i + 1 : Nat) : Int)) else some false := by
    intro r2 i hi
    have lt : (a.take i).length = i := by simp; omega
    have gx : ∀ j, j < i → lx (a.take i) j = lx a j := fun j hj => by simp [lx, List.getD_eq_getElem?_getD, hj]
    unfold impl_pairsHold_impl_Lead__impl_OneLeader_1.lp5
    rw [lt]
    have := loop_all (step := fun rec => impl_pairsHold_impl_Lead__impl_OneLeader_1.step5 N a r2 rec) (n := i) (st := fun j => ((a.length : Int), (i : Int), a.take i, (i : Int), (j : Int), (lx a i).Term, (lx a i).Id, (lx a i).Log)) (p := oneP a i) (f := some false) (t := r2 ((a.length : Int), ((i + 1 : Nat) : Int))) (fun j hj rec => by
      simp only [impl_pairsHold_impl_Lead__impl_OneLeader_1.step5, lt, lt_dec hj, nn_dec, cond_true, Int.toNat_natCast, lxe, gx j hj, leadEta, impl_OneLeader_1.m, cond_false, bne, oneP]
      rw [w_up j i hj (by omega)]
      cases (lx a i).Term == (lx a j).Term <;> cases (lx a i).Id == (lx a j).Id <;> rfl) (fun rec => by
      simp only [impl_pairsHold_impl_Lead__impl_OneLeader_1.step5, ge_dec, cond_false]
      rw [w_up i _ hi hl]) i 0 N (by omega) (by omega)
    exact this
  unfold impl_pairsHold_impl_Lead__impl_OneLeader_1.lp2
  have := loop_all (step := fun rec => impl_pairsHold_impl_Lead__impl_OneLeader_1.step2 N a (impl_pairsHold_impl_Lead__impl_OneLeader_1.lp5 N a rec) rec) (n := a.length) (st := fun i => ((a.length : Int), (i : Int))) (p := fun i => allF (oneP a i) 0 i) (f := some false) (t := some true) (fun i hi rec => by
    simp only [impl_pairsHold_impl_Lead__impl_OneLeader_1.step2, lt_dec hi, nn_dec, cond_true, Int.toNat_natCast, lxe, decide_eq_true (show (i : Int) ≤ (a.length : Int) by omega)]
    exact h5 rec i hi) (fun rec => by simp [impl_pairsHold_impl_Lead__impl_OneLeader_1.step2]) a.length 0 N (by omega) (by omega)
  refine (show _ = _ from this).trans ?_
  unfold pairsB
  cases allF (fun i => allF (oneP a i) 0 i) 0 a.length <;> rfl
theorem pureOneLeader (a0 : Group) (h0 : ∃ n, WfE E (WfA E n) (.st 27) a0) : ∃ N, laws_FnExactOneLeader.m N a0 = some true := by
  refine ⟨16777216, ?_⟩
  generalize hN' : 16777216 = N
  have hN : Big N := by omega
  unfold laws_FnExactOneLeader.m
  obtain ⟨y, e, _, hy⟩ := szGroup hN a0 1048576 (by omega) (by omega) (wfGroup h0)
  rw [e, ob_some]
  by_cases h : y < 0
  · rw [decide_eq_true h]; rfl
  rw [decide_eq_false h, cond_false]
  have hs := hy (by omega)
  have e1 : spec_OneLeader.m N a0 = some (bif grpB a0 then (pairsB (oneP a0.Leads) a0.Leads.length, 0) else (false, 1)) := by
    unfold spec_OneLeader.m
    rw [specGroup hN a0 hs, specOne hN a0 hs]
    cases grpB a0 <;> rfl
  have e2 : impl_OneLeader.m N a0 = some (bif grpB a0 then (pairsB (oneP a0.Leads) a0.Leads.length, 0) else (false, 1)) := by
    unfold impl_OneLeader.m
    rw [implGroup hN a0 hs, implOne hN _ hs.Leads]
    cases grpB a0 <;> rfl
  simp only [groupEta, toGroup hN a0 hs, ob_some, e1, e2, eqGroup hN a0 hs, beq_self_eq_true, bne_self_eq_false, Bool.not_true, cond_false]
/-! ### LeadersComplete -/
theorem allF_swap {p : Nat → Nat → Bool} {m n : Nat} : allF (fun i => allF (p i) 0 n) 0 m = allF (fun j => allF (fun i => p i j) 0 m) 0 n := by
  rw [Bool.eq_iff_iff]
  simp only [allF_iff]
  exact ⟨fun h j h1 h2 i h3 h4 => h i h3 h4 j h1 h2, fun h i h1 h2 j h3 h4 => h j h3 h4 i h1 h2⟩
def eqF (x y : Entry) : Bool := (x.Term == y.Term) && ((x.Kind == y.Kind) && (seq x.Data y.Data))
def hasB (l : Lead) (d : Done) : Bool := inB d.Index 1 l.Log.length && eqF (ex l.Log (Int.toNat (d.Index - 1))) d.Entry
def compB (l : Lead) (d : Done) : Bool := bif decide (l.Term > d.Term) then hasB l d else true
theorem leadHas (N : Nat) (l : Lead) (d : Done) (h : l.Log.length ≤ M20) : impl_Lead_has.m N l d = some (hasB l d) := by
  unfold impl_Lead_has.m hasB
  rw [within, ob_some]
  cases hI : inB d.Index 1 l.Log.length with
  | false => rfl
  | true =>
    obtain ⟨i1, i2⟩ := inB_iff.1 hI
    simp only [M20] at h
    have e : w64 (d.Index - 1) = d.Index - 1 := w_small (by omega) (by omega)
    simp only [e, cond_true, decide_eq_true (show 0 ≤ d.Index - 1 by omega), decide_eq_true (show d.Index - 1 < (l.Log.length : Int) by omega), exe, Bool.true_and]
    rfl
theorem specComplete {N : Nat} (hN : Big N) (x : Group) (h : GroupSz x) : spec_LeadersComplete.m N x = some (bif grpB x then (allF (fun i => allF (fun j => compB (lx x.Leads j) (dx x.Dones i)) 0 x.Leads.length) 0 x.Dones.length, 0) else (false, 1)) := by
  unfold spec_LeadersComplete.m
  rw [specGroup hN x h, ob_some]
  cases grpB x with
  | false => rfl
  | true =>
    simp only [Bool.not_true, cond_false, cond_true]
    have hd := h.Dones
    have hd2 := hd
    have hl := h.Leads
    have hl2 := hl
    simp only [M20] at hd2 hl2
    have h8 : ∀ (r4 : Int × List Node × List Message × List Lead × List Done → Option (Bool × Int)) (i : Nat), i < x.Dones.length → spec_LeadersComplete.lp8 N x r4 ((i : Int), 0, x.Nodes, x.Wire, x.Leads, x.Dones, (dx x.Dones i).Node, (dx x.Dones i).Term, (dx x.Dones i).Index, (dx x.Dones i).Entry.Term, (dx x.Dones i).Entry.Kind, (dx x.Dones i).Entry.Data) = bif allF (fun j => compB (lx x.Leads j) (dx x.Dones i)) 0 x.Leads.length then r4 (((i + 1 : Nat) : Int), x.Nodes, x.Wire, x.Leads, x.Dones) else some (false, 0) := by
      intro r4 i hi
      generalize dx x.Dones i = d
      unfold spec_LeadersComplete.lp8
      have := loop_all (step := fun rec => spec_LeadersComplete.step8 N x r4 rec) (n := x.Leads.length) (st := fun j => ((i : Int), (j : Int), x.Nodes, x.Wire, x.Leads, x.Dones, d.Node, d.Term, d.Index, d.Entry.Term, d.Entry.Kind, d.Entry.Data)) (p := fun j => compB (lx x.Leads j) d) (f := some (false, 0)) (t := r4 (((i + 1 : Nat) : Int), x.Nodes, x.Wire, x.Leads, x.Dones)) (fun j hj rec => by
        have hlog := (lx_fit h.LeadsW hj).Log
        simp only [M20] at hlog
        simp only [spec_LeadersComplete.step8, lt_dec hj, nn_dec, cond_true, Int.toNat_natCast, lxe]
        rw [w_up j _ hj hl]
        unfold compB hasB
        by_cases hT : (lx x.Leads j).Term > d.Term
        · simp only [hT, decide_true, cond_true, cond_false]
          by_cases h1 : d.Index < 1
          · have : inB d.Index 1 (lx x.Leads j).Log.length = false := by
              rw [Bool.eq_false_iff]; intro hh; have := inB_iff.1 hh; omega
            simp only [h1, decide_true, cond_true, this, Bool.false_and, cond_false]
          · by_cases h2 : d.Index > ((lx x.Leads j).Log.length : Int)
            · have : inB d.Index 1 (lx x.Leads j).Log.length = false := by
                rw [Bool.eq_false_iff]; intro hh; have := inB_iff.1 hh; omega
              simp only [h1, h2, decide_true, decide_false, cond_true, this, Bool.false_and, cond_false]
            · have e : w64 (d.Index - 1) = d.Index - 1 := w_small (by omega) (by omega)
              have hi1 : inB d.Index 1 (lx x.Leads j).Log.length = true := inB_iff.2 (by omega)
              have q1 : 0 ≤ d.Index - 1 := by omega
              have q2 : d.Index - 1 < ((lx x.Leads j).Log.length : Int) := by omega
              simp only [h1, h2, q1, q2, e, decide_true, decide_false, cond_true, cond_false, exe, hi1, Bool.true_and]
              show (bif !eqF (ex (lx x.Leads j).Log (Int.toNat (d.Index - 1))) d.Entry then _ else _) = _
              cases eqF (ex (lx x.Leads j).Log (Int.toNat (d.Index - 1))) d.Entry <;> rfl
        · simp only [hT, decide_false, cond_false, cond_true]) (fun rec => by
        simp only [spec_LeadersComplete.step8, ge_dec, cond_false]
        rw [w_up i _ hi hd]) x.Leads.length 0 N (by omega) (by omega)
      exact this
    unfold spec_LeadersComplete.lp4
    have := loop_all (step := fun rec => spec_LeadersComplete.step4 N x (spec_LeadersComplete.lp8 N x rec) rec) (n := x.Dones.length) (st := fun i => ((i : Int), x.Nodes, x.Wire, x.Leads, x.Dones)) (p := fun i => allF (fun j => compB (lx x.Leads j) (dx x.Dones i)) 0 x.Leads.length) (f := some (false, 0)) (t := some (true, 0)) (fun i hi rec => by
      simp only [spec_LeadersComplete.step4, lt_dec hi, nn_dec, cond_true, Int.toNat_natCast, dxe]
      exact h8 rec i hi) (fun rec => by simp [spec_LeadersComplete.step4]) x.Dones.length 0 N (by omega) (by omega)
    refine (show _ = _ from this).trans ?_
    cases allF (fun i => allF (fun j => compB (lx x.Leads j) (dx x.Dones i)) 0 x.Leads.length) 0 x.Dones.length <;> rfl
theorem implComplete {N : Nat} (hN : Big N) (x : Group) (h : GroupSz x) : impl_LeadersComplete.m N x = some (bif grpB x then (allF (fun j => allF (fun i => compB (lx x.Leads j) (dx x.Dones i)) 0 x.Dones.length) 0 x.Leads.length, 0) else (false, 1)) := by
  unfold impl_LeadersComplete.m
  rw [implGroup hN x h, ob_some]
  cases grpB x with
  | false => rfl
  | true =>
    simp only [Bool.not_true, cond_false, cond_true]
    have hd := h.Dones
    have hd2 := hd
    have hl := h.Leads
    have hl2 := hl
    simp only [M20] at hd2 hl2
    have h7 : ∀ (r4 : Int × Int × List Node × List Message × List Lead × List Done → Option (Bool × Int)) (i : Nat), i < x.Leads.length → impl_LeadersComplete.lp7 N x r4 ((x.Leads.length : Int), (i : Int), x.Dones, (x.Dones.length : Int), 0, x.Nodes, x.Wire, x.Leads, x.Dones, (lx x.Leads i).Term, (lx x.Leads i).Id, (lx x.Leads i).Log) = bif allF (fun j => compB (lx x.Leads i) (dx x.Dones j)) 0 x.Dones.length then r4 ((x.Leads.length : Int), ((i + 1 : Nat) : Int), x.Nodes, x.Wire, x.Leads, x.Dones) else some (false, 0) := by
      intro r4 i hi
      have hlog := (lx_fit h.LeadsW hi).Log
      generalize lx x.Leads i = l at hlog
      unfold impl_LeadersComplete.lp7
      have := loop_all (step := fun rec => impl_LeadersComplete.step7 N x r4 rec) (n := x.Dones.length) (st := fun j => ((x.Leads.length : Int), (i : Int), x.Dones, (x.Dones.length : Int), (j : Int), x.Nodes, x.Wire, x.Leads, x.Dones, l.Term, l.Id, l.Log)) (p := fun j => compB l (dx x.Dones j)) (f := some (false, 0)) (t := r4 ((x.Leads.length : Int), ((i + 1 : Nat) : Int), x.Nodes, x.Wire, x.Leads, x.Dones)) (fun j hj rec => by
        simp only [impl_LeadersComplete.step7, lt_dec hj, nn_dec, cond_true, Int.toNat_natCast, dxe, leadEta]
        rw [w_up j _ hj hd]
        unfold compB
        by_cases hT : l.Term > (dx x.Dones j).Term
        · simp only [hT, decide_true, cond_true]
          show ob (impl_Lead_has.m N l (dx x.Dones j)) _ = _
          rw [leadHas N l _ hlog, ob_some]
          cases hasB l (dx x.Dones j) <;> rfl
        · simp only [hT, decide_false, cond_false, cond_true]) (fun rec => by
        simp only [impl_LeadersComplete.step7, ge_dec, cond_false]
        rw [w_up i _ hi hl]) x.Dones.length 0 N (by omega) (by omega)
      exact this
    unfold impl_LeadersComplete.lp4
    have := loop_all (step := fun rec => impl_LeadersComplete.step4 N x (impl_LeadersComplete.lp7 N x rec) rec) (n := x.Leads.length) (st := fun i => ((x.Leads.length : Int), (i : Int), x.Nodes, x.Wire, x.Leads, x.Dones)) (p := fun i => allF (fun j => compB (lx x.Leads i) (dx x.Dones j)) 0 x.Dones.length) (f := some (false, 0)) (t := some (true, 0)) (fun i hi rec => by
      simp only [impl_LeadersComplete.step4, lt_dec hi, nn_dec, cond_true, Int.toNat_natCast, lxe]
      exact h7 rec i hi) (fun rec => by simp [impl_LeadersComplete.step4]) x.Leads.length 0 N (by omega) (by omega)
    refine (show _ = _ from this).trans ?_
    cases allF (fun j => allF (fun i => compB (lx x.Leads j) (dx x.Dones i)) 0 x.Dones.length) 0 x.Leads.length <;> rfl
theorem pureLeadersComplete (a0 : Group) (h0 : ∃ n, WfE E (WfA E n) (.st 27) a0) : ∃ N, laws_FnExactLeadersComplete.m N a0 = some true := by
  refine ⟨16777216, ?_⟩
  generalize hN' : 16777216 = N
  have hN : Big N := by omega
  unfold laws_FnExactLeadersComplete.m
  obtain ⟨y, e, _, hy⟩ := szGroup hN a0 1048576 (by omega) (by omega) (wfGroup h0)
  rw [e, ob_some]
  by_cases h : y < 0
  · rw [decide_eq_true h]; rfl
  rw [decide_eq_false h, cond_false]
  have hs := hy (by omega)
  simp only [groupEta, toGroup hN a0 hs, ob_some, specComplete hN a0 hs, implComplete hN a0 hs, eqGroup hN a0 hs]
  rw [allF_swap]
  simp only [beq_self_eq_true, bne_self_eq_false, Bool.not_true, cond_false]
end Mir.Y
