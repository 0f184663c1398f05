/- Pure laws: groups; GroupOK. -/
import Derived.Test.YtbepkbaemapkjaaUL4
namespace Mir.Y
set_option linter.unusedVariables false
set_option linter.unusedSimpArgs false
open Go
/-! ### Bulk of groups -/
structure MsgWf (x : Message) : Prop where
  Entries : x.Entries.length ≤ maxLen
  Data : ∀ e ∈ x.Entries, e.Data.size ≤ maxLen
structure MsgSz (x : Message) : Prop where
  Entries : x.Entries.length ≤ M20
  Data : ∀ e ∈ x.Entries, e.Data.size ≤ M20
structure LeadWf (x : Lead) : Prop where
  Log : x.Log.length ≤ maxLen
  Data : ∀ e ∈ x.Log, e.Data.size ≤ maxLen
structure LeadSz (x : Lead) : Prop where
  Log : x.Log.length ≤ M20
  Data : ∀ e ∈ x.Log, e.Data.size ≤ M20
structure GroupWf (x : Group) : Prop where
  Nodes : x.Nodes.length ≤ maxLen
  NodesW : ∀ n ∈ x.Nodes, NodeWf n
  Wire : x.Wire.length ≤ maxLen
  WireW : ∀ n ∈ x.Wire, MsgWf n
  Leads : x.Leads.length ≤ maxLen
  LeadsW : ∀ n ∈ x.Leads, LeadWf n
  Dones : x.Dones.length ≤ maxLen
  DonesW : ∀ n ∈ x.Dones, n.Entry.Data.size ≤ maxLen
structure NodeFit (x : Node) : Prop where
  sz : NodeSz x M20
  data : NodeData x
structure GroupSz (x : Group) : Prop where
  Nodes : x.Nodes.length ≤ M20
  NodesW : ∀ n ∈ x.Nodes, NodeFit n
  Wire : x.Wire.length ≤ M20
  WireW : ∀ n ∈ x.Wire, MsgSz n
  Leads : x.Leads.length ≤ M20
  LeadsW : ∀ n ∈ x.Leads, LeadSz n
  Dones : x.Dones.length ≤ M20
  DonesW : ∀ n ∈ x.Dones, n.Entry.Data.size ≤ M20
/-- A row of counted things, out of one thing's count. -/
theorem szRow {X : Type} {N : Nat} (hN : Big N) {sz : X → Int → Option Int} {step : (Int × Int → Option Int) → Int × Int → Option Int} {a : List X} {W P : X → Prop} {c : Int} (h0 : 0 ≤ c) (hc : c ≤ 1048576) (hl : a.length ≤ maxLen) (hw : ∀ x ∈ a, W x)
    (hsz : ∀ x v, W x → 0 ≤ v → v ≤ 1048576 → ∃ y : Int, sz x v = some y ∧ y ≤ v ∧ (0 ≤ y → P x))
    (hstep : ∀ (i : Nat) (hi : i < a.length) (v : Int) rec, step rec (v, (i : Int)) = ob (sz a[i] v) fun y => bif decide (y < 0) then some (-1) else rec (y, w64 ((i : Int) + 1)))
    (hend : ∀ v rec, step rec (v, (a.length : Int)) = some v) :
    ∃ y : Int, (bif decide (w64 (c - (a.length : Int)) < 0) then some (-1) else miter step N (w64 (c - (a.length : Int)), 0)) = some y ∧ y ≤ c ∧ (0 ≤ y → a.length ≤ M20 ∧ ∀ x ∈ a, P x) := by
  rw [w_sub h0 hc hl]
  by_cases hy : c - (a.length : Int) < 0
  · rw [decide_eq_true hy]; exact ⟨-1, rfl, by omega, fun h => by omega⟩
  · rw [decide_eq_false hy, cond_false]
    have hal : a.length ≤ M20 := by simp only [M20]; omega
    obtain ⟨y, h1, h2, h3⟩ := loop_sz (step := step) (a := a) (P := P) (c := c - a.length) (fun i hi v hv hvc => by
      obtain ⟨y, e, l, k⟩ := hsz a[i] v (hw _ (List.getElem_mem hi)) hv (by omega)
      exact ⟨y, l, k, fun rec => by rw [hstep i hi v rec, e, ob_some, w_up i _ hi hal]⟩) hend a.length 0 N (c - a.length) (by omega) (by simp only [M20] at hal; omega) (by omega) (by omega)
    refine ⟨y, h1, by omega, fun h => ⟨hal, fun x hx => ?_⟩⟩
    obtain ⟨j, hj, rfl⟩ := List.getElem_of_mem hx
    exact h3 h j (Nat.zero_le _) hj
theorem szNodeS {N : Nat} (hN : Big N) (a : List Node) (c : Int) (h0 : 0 ≤ c) (hc : c ≤ 1048576) (hl : a.length ≤ maxLen) (hw : ∀ x ∈ a, NodeWf x) : ∃ y : Int, laws_szNodeS.m N a c = some y ∧ y ≤ c ∧ (0 ≤ y → a.length ≤ M20 ∧ ∀ x ∈ a, NodeFit x) := by
  unfold laws_szNodeS.m laws_szNodeS.lp5
  exact szRow hN (sz := fun x v => laws_szNode.m N x v) h0 hc hl hw (fun x v h h1 h2 => by
    obtain ⟨y, e, l, k⟩ := szNode hN x v h1 h2 h
    exact ⟨y, e, l, fun h => ⟨(k h).1, (k h).2⟩⟩) (fun i hi v rec => by
    simp only [laws_szNodeS.step5, lt_dec hi, nn_dec, cond_true, Int.toNat_natCast, getD_at hi]) (fun v rec => by simp [laws_szNodeS.step5])
theorem szMsg {N : Nat} (hN : Big N) (x : Message) (c : Int) (hw : MsgWf x) (h0 : 0 ≤ c) (hc : c ≤ 1048576) : ∃ y : Int, laws_szMessage.m N x c = some y ∧ y ≤ c ∧ (0 ≤ y → MsgSz x) := by
  unfold laws_szMessage.m
  obtain ⟨y, e, l, k⟩ := szEntryS hN x.Entries c h0 hc hw.Entries hw.Data
  rw [e, ob_some]
  by_cases h : y < 0
  · rw [decide_eq_true h]; exact ⟨-1, rfl, by omega, fun h => by omega⟩
  · rw [decide_eq_false h]; exact ⟨y, rfl, l, fun h => ⟨(k h).1, (k h).2⟩⟩
theorem szMsgS {N : Nat} (hN : Big N) (a : List Message) (c : Int) (h0 : 0 ≤ c) (hc : c ≤ 1048576) (hl : a.length ≤ maxLen) (hw : ∀ x ∈ a, MsgWf x) : ∃ y : Int, laws_szMessageS.m N a c = some y ∧ y ≤ c ∧ (0 ≤ y → a.length ≤ M20 ∧ ∀ x ∈ a, MsgSz x) := by
  unfold laws_szMessageS.m laws_szMessageS.lp5
  exact szRow hN (sz := fun x v => laws_szMessage.m N x v) h0 hc hl hw (szMsg hN) (fun i hi v rec => by
    simp only [laws_szMessageS.step5, lt_dec hi, nn_dec, cond_true, Int.toNat_natCast, getD_at hi]) (fun v rec => by simp [laws_szMessageS.step5])
theorem szLead {N : Nat} (hN : Big N) (x : Lead) (c : Int) (hw : LeadWf x) (h0 : 0 ≤ c) (hc : c ≤ 1048576) : ∃ y : Int, laws_szLead.m N x c = some y ∧ y ≤ c ∧ (0 ≤ y → LeadSz x) := by
  unfold laws_szLead.m
  obtain ⟨y, e, l, k⟩ := szEntryS hN x.Log c h0 hc hw.Log hw.Data
  rw [e, ob_some]
  by_cases h : y < 0
  · rw [decide_eq_true h]; exact ⟨-1, rfl, by omega, fun h => by omega⟩
  · rw [decide_eq_false h]; exact ⟨y, rfl, l, fun h => ⟨(k h).1, (k h).2⟩⟩
theorem szLeadS {N : Nat} (hN : Big N) (a : List Lead) (c : Int) (h0 : 0 ≤ c) (hc : c ≤ 1048576) (hl : a.length ≤ maxLen) (hw : ∀ x ∈ a, LeadWf x) : ∃ y : Int, laws_szLeadS.m N a c = some y ∧ y ≤ c ∧ (0 ≤ y → a.length ≤ M20 ∧ ∀ x ∈ a, LeadSz x) := by
  unfold laws_szLeadS.m laws_szLeadS.lp5
  exact szRow hN (sz := fun x v => laws_szLead.m N x v) h0 hc hl hw (szLead hN) (fun i hi v rec => by
    simp only [laws_szLeadS.step5, lt_dec hi, nn_dec, cond_true, Int.toNat_natCast, getD_at hi]) (fun v rec => by simp [laws_szLeadS.step5])
theorem szDone {N : Nat} (x : Done) (c : Int) (hw : x.Entry.Data.size ≤ maxLen) (h0 : 0 ≤ c) (hc : c ≤ 1048576) : ∃ y : Int, laws_szDone.m N x c = some y ∧ y ≤ c ∧ (0 ≤ y → x.Entry.Data.size ≤ M20) := by
  unfold laws_szDone.m laws_szEntry.m
  rw [w_sub h0 hc hw]
  by_cases h : c - (x.Entry.Data.size : Int) < 0
  · rw [decide_eq_true h]; exact ⟨-1, rfl, by omega, fun h => by omega⟩
  · rw [decide_eq_false h, cond_false, ob_some, decide_eq_false h]; exact ⟨_, rfl, by omega, fun h => by simp only [M20]; omega⟩
theorem szDoneS {N : Nat} (hN : Big N) (a : List Done) (c : Int) (h0 : 0 ≤ c) (hc : c ≤ 1048576) (hl : a.length ≤ maxLen) (hw : ∀ x ∈ a, x.Entry.Data.size ≤ maxLen) : ∃ y : Int, laws_szDoneS.m N a c = some y ∧ y ≤ c ∧ (0 ≤ y → a.length ≤ M20 ∧ ∀ x ∈ a, x.Entry.Data.size ≤ M20) := by
  unfold laws_szDoneS.m laws_szDoneS.lp5
  exact szRow hN (sz := fun x v => laws_szDone.m N x v) h0 hc hl hw szDone (fun i hi v rec => by
    simp only [laws_szDoneS.step5, lt_dec hi, nn_dec, cond_true, Int.toNat_natCast, getD_at hi]) (fun v rec => by simp [laws_szDoneS.step5])
theorem szGroup {N : Nat} (hN : Big N) (x : Group) (c : Int) (h0 : 0 ≤ c) (hc : c ≤ 1048576) (hw : GroupWf x) : ∃ y : Int, laws_szGroup.m N x c = some y ∧ y ≤ c ∧ (0 ≤ y → GroupSz x) := by
  unfold laws_szGroup.m
  obtain ⟨y1, e1, l1, k1⟩ := szNodeS hN x.Nodes c h0 hc hw.Nodes hw.NodesW
  rw [e1, ob_some]
  by_cases n1 : y1 < 0
  · rw [decide_eq_true n1]; exact ⟨-1, rfl, by omega, fun h => by omega⟩
  rw [decide_eq_false n1, cond_false]
  obtain ⟨y2, e2, l2, k2⟩ := szMsgS hN x.Wire y1 (by omega) (by omega) hw.Wire hw.WireW
  rw [e2, ob_some]
  by_cases n2 : y2 < 0
  · rw [decide_eq_true n2]; exact ⟨-1, rfl, by omega, fun h => by omega⟩
  rw [decide_eq_false n2, cond_false]
  obtain ⟨y3, e3, l3, k3⟩ := szLeadS hN x.Leads y2 (by omega) (by omega) hw.Leads hw.LeadsW
  rw [e3, ob_some]
  by_cases n3 : y3 < 0
  · rw [decide_eq_true n3]; exact ⟨-1, rfl, by omega, fun h => by omega⟩
  rw [decide_eq_false n3, cond_false]
  obtain ⟨y4, e4, l4, k4⟩ := szDoneS hN x.Dones y3 (by omega) (by omega) hw.Dones hw.DonesW
  rw [e4, ob_some]
  by_cases n4 : y4 < 0
  · rw [decide_eq_true n4]; exact ⟨-1, rfl, by omega, fun h => by omega⟩
  rw [decide_eq_false n4, cond_false]
  exact ⟨y4, rfl, by omega, fun h => ⟨(k1 (by omega)).1, (k1 (by omega)).2, (k2 (by omega)).1, (k2 (by omega)).2, (k3 (by omega)).1, (k3 (by omega)).2, (k4 h).1, (k4 h).2⟩⟩
/-! ### Copies of groups -/
theorem toNodeS {N : Nat} (hN : Big N) (a : List Node) (h : a.length ≤ M20) (hw : ∀ x ∈ a, NodeFit x) : laws_toNodeS.m N a = some a := by
  unfold laws_toNodeS.m laws_toNodeS.lp3
  simp only [Int.toNat_natCast, roomB h (by omega : 184 ≤ 1024), Int.natCast_nonneg, decide_true, cond_true]
  exact loop_fill (fun i hi v hv rec => by
    simp only [laws_toNodeS.step3, lt_dec hi, nn_dec, hv, cond_true, Int.toNat_natCast, getD_at hi, toNode hN a[i] (hw _ (List.getElem_mem hi)).sz, ob_some]
    rw [w_up i _ hi h]) (fun rec => by simp [laws_toNodeS.step3]) (by simp only [M20] at h; omega)
theorem toMsg {N : Nat} (hN : Big N) (x : Message) (h : MsgSz x) : laws_toMessage.m N x = some x := by
  unfold laws_toMessage.m
  rw [toEntryS hN _ h.Entries]; rfl
theorem toMsgS {N : Nat} (hN : Big N) (a : List Message) (h : a.length ≤ M20) (hw : ∀ x ∈ a, MsgSz x) : laws_toMessageS.m N a = some a := by
  unfold laws_toMessageS.m laws_toMessageS.lp3
  simp only [Int.toNat_natCast, roomB h (by omega : 88 ≤ 1024), Int.natCast_nonneg, decide_true, cond_true]
  exact loop_fill (fun i hi v hv rec => by
    simp only [laws_toMessageS.step3, lt_dec hi, nn_dec, hv, cond_true, Int.toNat_natCast, getD_at hi, toMsg hN a[i] (hw _ (List.getElem_mem hi)), ob_some]
    rw [w_up i _ hi h]) (fun rec => by simp [laws_toMessageS.step3]) (by simp only [M20] at h; omega)
theorem toLead {N : Nat} (hN : Big N) (x : Lead) (h : LeadSz x) : laws_toLead.m N x = some x := by
  unfold laws_toLead.m
  rw [toEntryS hN _ h.Log]; rfl
theorem toLeadS {N : Nat} (hN : Big N) (a : List Lead) (h : a.length ≤ M20) (hw : ∀ x ∈ a, LeadSz x) : laws_toLeadS.m N a = some a := by
  unfold laws_toLeadS.m laws_toLeadS.lp3
  simp only [Int.toNat_natCast, roomB h (by omega : 40 ≤ 1024), Int.natCast_nonneg, decide_true, cond_true]
  exact loop_fill (fun i hi v hv rec => by
    simp only [laws_toLeadS.step3, lt_dec hi, nn_dec, hv, cond_true, Int.toNat_natCast, getD_at hi, toLead hN a[i] (hw _ (List.getElem_mem hi)), ob_some]
    rw [w_up i _ hi h]) (fun rec => by simp [laws_toLeadS.step3]) (by simp only [M20] at h; omega)
theorem toDone (N : Nat) (x : Done) : laws_toDone.m N x = some x := rfl
theorem toDoneS {N : Nat} (hN : Big N) (a : List Done) (h : a.length ≤ M20) : laws_toDoneS.m N a = some a := by
  unfold laws_toDoneS.m laws_toDoneS.lp3
  simp only [Int.toNat_natCast, roomB h (by omega : 56 ≤ 1024), Int.natCast_nonneg, decide_true, cond_true]
  exact loop_fill (fun i hi v hv rec => by
    simp only [laws_toDoneS.step3, lt_dec hi, nn_dec, hv, cond_true, Int.toNat_natCast, getD_at hi, toDone, ob_some]
    rw [w_up i _ hi h]) (fun rec => by simp [laws_toDoneS.step3]) (by simp only [M20] at h; omega)
theorem toGroup {N : Nat} (hN : Big N) (x : Group) (h : GroupSz x) : laws_toGroup.m N x = some x := by
  unfold laws_toGroup.m
  rw [toNodeS hN _ h.Nodes h.NodesW, toMsgS hN _ h.Wire h.WireW, toLeadS hN _ h.Leads h.LeadsW, toDoneS hN _ h.Dones]
  rfl
/-! ### Equal groups -/
theorem eqNodeS {N : Nat} (hN : Big N) (a : List Node) (h : a.length ≤ M20) (hw : ∀ x ∈ a, NodeFit x) : laws_eqNodeS.m N a a = some true := by
  unfold laws_eqNodeS.m laws_eqNodeS.lp4
  simp only [bne_self_eq_false, cond_false]
  exact miter_up (n := a.length) (st := fun i => (i : Int)) (fun i hi rec => by
    simp only [laws_eqNodeS.step4, lt_dec hi, nn_dec, cond_true, Int.toNat_natCast, getD_at hi, eqNode hN a[i] (hw _ (List.getElem_mem hi)).sz, ob_some, Bool.not_true, cond_false]
    rw [w_up i _ hi h]) (fun rec => by simp [laws_eqNodeS.step4]) a.length 0 N (by omega) (by simp only [M20] at h; omega)
theorem eqMsg {N : Nat} (hN : Big N) (x : Message) (h : MsgSz x) : laws_eqMessage.m N x x = some true := by
  unfold laws_eqMessage.m
  simp [eqEntryS hN _ h.Entries]
theorem eqMsgS {N : Nat} (hN : Big N) (a : List Message) (h : a.length ≤ M20) (hw : ∀ x ∈ a, MsgSz x) : laws_eqMessageS.m N a a = some true := by
  unfold laws_eqMessageS.m laws_eqMessageS.lp4
  simp only [bne_self_eq_false, cond_false]
  exact miter_up (n := a.length) (st := fun i => (i : Int)) (fun i hi rec => by
    simp only [laws_eqMessageS.step4, lt_dec hi, nn_dec, cond_true, Int.toNat_natCast, getD_at hi, eqMsg hN a[i] (hw _ (List.getElem_mem hi)), ob_some, Bool.not_true, cond_false]
    rw [w_up i _ hi h]) (fun rec => by simp [laws_eqMessageS.step4]) a.length 0 N (by omega) (by simp only [M20] at h; omega)
theorem eqLead {N : Nat} (hN : Big N) (x : Lead) (h : LeadSz x) : laws_eqLead.m N x x = some true := by
  unfold laws_eqLead.m
  simp [eqEntryS hN _ h.Log]
theorem eqLeadS {N : Nat} (hN : Big N) (a : List Lead) (h : a.length ≤ M20) (hw : ∀ x ∈ a, LeadSz x) : laws_eqLeadS.m N a a = some true := by
  unfold laws_eqLeadS.m laws_eqLeadS.lp4
  simp only [bne_self_eq_false, cond_false]
  exact miter_up (n := a.length) (st := fun i => (i : Int)) (fun i hi rec => by
    simp only [laws_eqLeadS.step4, lt_dec hi, nn_dec, cond_true, Int.toNat_natCast, getD_at hi, eqLead hN a[i] (hw _ (List.getElem_mem hi)), ob_some, Bool.not_true, cond_false]
    rw [w_up i _ hi h]) (fun rec => by simp [laws_eqLeadS.step4]) a.length 0 N (by omega) (by simp only [M20] at h; omega)
theorem eqDone (N : Nat) (x : Done) : laws_eqDone.m N x x = some true := by
  unfold laws_eqDone.m
  simp [eqEntry]
theorem eqDoneS {N : Nat} (hN : Big N) (a : List Done) (h : a.length ≤ M20) : laws_eqDoneS.m N a a = some true := by
  unfold laws_eqDoneS.m laws_eqDoneS.lp4
  simp only [bne_self_eq_false, cond_false]
  exact miter_up (n := a.length) (st := fun i => (i : Int)) (fun i hi rec => by
    simp only [laws_eqDoneS.step4, lt_dec hi, nn_dec, cond_true, Int.toNat_natCast, eqDone, ob_some, Bool.not_true, cond_false]
    rw [w_up i _ hi h]) (fun rec => by simp [laws_eqDoneS.step4]) a.length 0 N (by omega) (by simp only [M20] at h; omega)
theorem eqGroup {N : Nat} (hN : Big N) (x : Group) (h : GroupSz x) : laws_eqGroup.m N x x = some true := by
  unfold laws_eqGroup.m
  simp [eqNodeS hN _ h.Nodes h.NodesW, eqMsgS hN _ h.Wire h.WireW, eqLeadS hN _ h.Leads h.LeadsW, eqDoneS hN _ h.Dones]
/-! ### Messages -/
def prevT (x : Message) : Nat → Int
  | 0 => x.LogTerm
  | i + 1 => (ex x.Entries i).Term
def entsP (x : Message) (i : Nat) : Bool := entB (ex x.Entries i) && inB (ex x.Entries i).Term (prevT x i) x.Term
def startB (x : Message) : Bool := decide (x.Index > 0) || x.LogTerm == 0
def msgB (x : Message) : Bool := inB x.Kind 1 4 && (inB x.From 0 6 && (inB x.To 0 6 && (!(x.From == x.To) && (inB x.Term 1 1000000 && (inB x.Index 0 60 && (inB x.LogTerm 0 x.Term && (inB x.Commit 0 60 &&
  (bif x.Kind != 3 then (x.Entries.length : Int) == 0 else decide (x.Index + x.Entries.length ≤ 60) && (allF (entsP x) 0 x.Entries.length && startB x)))))))))
theorem inB_iff {a lo hi : Int} : inB a lo hi = true ↔ lo ≤ a ∧ a ≤ hi := by simp [inB]
theorem ents_eq (x : Message) (h1 : inB x.Term 1 1000000 = true) : (logB x.Entries x.Term && (decide (x.Entries.length = 0) || decide (x.LogTerm ≤ (ex x.Entries 0).Term))) = allF (entsP x) 0 x.Entries.length := by
  rw [Bool.eq_iff_iff]
  simp only [logB, Bool.and_eq_true, Bool.or_eq_true, allF_iff, decide_eq_true_eq, Bool.not_eq_true', entsP, inB_iff]
  constructor
  · rintro ⟨h, h0⟩ j _ hj
    obtain ⟨k1, k2, k3⟩ := h j (Nat.zero_le _) hj
    refine ⟨k1, ?_, by simpa using k2⟩
    cases j with
    | zero => rcases h0 with h0 | h0
              · omega
              · exact h0
    | succ j =>
      simp only [Nat.zero_lt_succ, decide_true, Bool.true_and, Nat.add_sub_cancel, decide_eq_false_iff_not] at k3
      show (ex x.Entries j).Term ≤ _
      omega
  · intro h
    refine ⟨fun j _ hj => ?_, ?_⟩
    · obtain ⟨k1, k2, k3⟩ := h j (Nat.zero_le _) hj
      refine ⟨k1, by simpa using k3, ?_⟩
      cases j with
      | zero => rfl
      | succ j =>
        simp only [Nat.zero_lt_succ, decide_true, Bool.true_and, Nat.add_sub_cancel, decide_eq_false_iff_not]
        have : (ex x.Entries j).Term ≤ (ex x.Entries (j + 1)).Term := k2
        omega
    · rcases Nat.eq_zero_or_pos x.Entries.length with h0 | h0
      · exact .inl h0
      · exact .inr (h 0 (Nat.le_refl _) (by omega)).2.1
theorem specMsg {N : Nat} (hN : Big N) (x : Message) (h : MsgSz x) : spec_l10MessageOK.m N x = some (msgB x) := by
  unfold spec_l10MessageOK.m msgB
  simp only [l01In, specState hN ⟨x.Term, 0, x.Entries⟩ h.Entries h.Data, ob_some, cond_false]
  refine ifNot (ifNot (ifNot (ifNo ?_)))
  cases hT : inB x.Term 1 1000000 with
  | false => rfl
  | true =>
    simp only [Bool.not_true, cond_false, Bool.true_and]
    cases hI : inB x.Index 0 60 with
    | false => rfl
    | true =>
      simp only [Bool.not_true, cond_false, Bool.true_and]
      refine ifNot (ifNot ?_)
      have hl := h.Entries
      obtain ⟨i1, i2⟩ := inB_iff.1 hI
      have ew : w64 (60 - x.Index) = 60 - x.Index := w_small (by omega) (by omega)
      rw [ew]
      by_cases hb : (x.Entries.length : Int) > 60 - x.Index
      · rw [decide_eq_true hb, cond_true, decide_eq_false (show ¬ x.Index + (x.Entries.length : Int) ≤ 60 by omega)]
        have : ((x.Entries.length : Int) == 0) = false := by rw [beq_eq_false_iff_ne]; omega
        rw [this]
        cases x.Kind != 3 <;> rfl
      · rw [decide_eq_false hb, cond_false, decide_eq_true (show x.Index + (x.Entries.length : Int) ≤ 60 by omega)]
        cases x.Kind != 3 with
        | true => rfl
        | false =>
          simp only [cond_false, cond_true, Bool.true_and]
          have est : stB ⟨x.Term, 0, x.Entries⟩ = logB x.Entries x.Term := by
            unfold stB
            have e1 : inB x.Term 0 1000000 = true := inB_iff.2 (by have := inB_iff.1 hT; omega)
            have e2 : decide ((x.Entries.length : Int) ≤ 60) = true := decide_eq_true (by omega)
            rw [e1, e2]; rfl
          rw [est, ← ents_eq x hT]
          unfold startB
          cases logB x.Entries x.Term with
          | false => rfl
          | true =>
            by_cases h0 : x.Entries.length = 0
            · have : ((x.Entries.length : Int) == 0) = true := by rw [beq_iff_eq]; omega
              rw [this, decide_eq_true h0]
              cases decide (x.Index > 0) <;> rfl
            · have : ((x.Entries.length : Int) == 0) = false := by rw [beq_eq_false_iff_ne]; omega
              rw [this, decide_eq_false h0, decide_eq_true (show (0 : Int) < (x.Entries.length : Int) by omega)]
              simp only [cond_true, cond_false, Int.le_refl, decide_true, Bool.true_and, Bool.false_or, exe, ge_iff_le]
              cases decide (x.LogTerm ≤ (ex x.Entries 0).Term) <;> cases decide (x.Index > 0) <;> rfl
theorem implMsg {N : Nat} (hN : Big N) (x : Message) (h : MsgSz x) : impl_messageOK.m N x = some (msgB x) := by
  unfold impl_messageOK.m msgB
  simp only [within, isNumber, ob_some, cond_false]
  refine ifNot (ifNot (ifNot (ifNo (ifNot ?_))))
  have hsw : ∀ {a b c : Bool}, (a && (b && c)) = (b && (a && c)) := by decide
  rw [hsw]
  refine ifNot ?_
  cases hI : inB x.Index 0 60 with
  | false => rfl
  | true =>
    simp only [Bool.not_true, cond_false, Bool.true_and]
    refine ifNot ?_
    cases x.Kind != 3 with
    | true => rfl
    | false =>
      simp only [cond_false]
      obtain ⟨i1, i2⟩ := inB_iff.1 hI
      have hl := h.Entries
      have hloop : impl_Message_entriesOK.m N x = some (allF (entsP x) 0 x.Entries.length && (decide (x.Index + x.Entries.length ≤ 60) && startB x)) := by
        unfold impl_Message_entriesOK.m impl_Message_entriesOK.lp3
        have := loop_all (step := fun rec => impl_Message_entriesOK.step3 N x rec) (n := x.Entries.length) (st := fun i => (prevT x i, (x.Entries.length : Int), (i : Int))) (p := entsP x) (f := some false) (t := some (decide (x.Index + x.Entries.length ≤ 60) && startB x)) (fun i hi rec => by
          simp only [impl_Message_entriesOK.step3, lt_dec hi, nn_dec, cond_true, Int.toNat_natCast, exe, implEntry hN _ (ex_size h.Data hi), within, ob_some, cond_false]
          rw [w_up i _ hi hl, entsP]
          cases entB (ex x.Entries i) <;> cases inB (ex x.Entries i).Term (prevT x i) x.Term <;> rfl) (fun rec => by
          simp only [impl_Message_entriesOK.step3, ge_dec, cond_false, cond_true]
          rw [w_small (x := x.Index + (x.Entries.length : Int)) (by omega) (by simp only [M20] at hl; omega)]
          unfold startB
          cases decide (x.Index + (x.Entries.length : Int) ≤ 60) <;> cases decide (x.Index > 0) <;> rfl) x.Entries.length 0 N (by omega) (by simp only [M20] at hl; omega)
        refine (show _ = _ from this).trans ?_
        cases allF (entsP x) 0 x.Entries.length <;> rfl
      rw [hloop]
      simp only [ob_some, cond_true]
      by_cases h6 : (x.Entries.length : Int) ≤ 60
      · rw [decide_eq_true h6]
        cases allF (entsP x) 0 x.Entries.length <;> cases decide (x.Index + (x.Entries.length : Int) ≤ 60) <;> rfl
      · rw [decide_eq_false h6, decide_eq_false (show ¬ x.Index + (x.Entries.length : Int) ≤ 60 by omega)]; rfl
/-! ### Groups -/
def nx (a : List Node) (i : Nat) : Node := a.getD i Node.dz
theorem nxe (a : List Node) (i : Nat) : a.getD i Node.dz = nx a i := rfl
theorem nx_fit {a : List Node} (h : ∀ x ∈ a, NodeFit x) {i : Nat} (hi : i < a.length) : NodeFit (nx a i) := by
  rw [nx, getD_at hi]; exact h _ (List.getElem_mem hi)
def mx (a : List Message) (i : Nat) : Message := a.getD i Message.dz
theorem mxe (a : List Message) (i : Nat) : a.getD i Message.dz = mx a i := rfl
theorem mx_fit {a : List Message} (h : ∀ x ∈ a, MsgSz x) {i : Nat} (hi : i < a.length) : MsgSz (mx a i) := by
  rw [mx, getD_at hi]; exact h _ (List.getElem_mem hi)
def grpB (x : Group) : Bool := inB x.Nodes.length 1 5 && (!decide ((x.Wire.length : Int) > 60) && (!decide ((x.Leads.length : Int) > 4096) && (!decide ((x.Dones.length : Int) > 4096) && (allF (fun i => okB (nx x.Nodes i) && !((nx x.Nodes i).Id != (i : Int))) 0 x.Nodes.length && allF (fun i => msgB (mx x.Wire i)) 0 x.Wire.length))))
theorem specGroup {N : Nat} (hN : Big N) (x : Group) (h : GroupSz x) : spec_GroupOK.m N x = some (grpB x) := by
  unfold spec_GroupOK.m grpB
  simp only [l01In, ob_some, cond_false]
  refine ifNot (ifNo (ifNo (ifNo ?_)))
  have hn := h.Nodes
  have hw := h.Wire
  have h9 : spec_GroupOK.lp9 N x 0 = some (allF (fun i => msgB (mx x.Wire i)) 0 x.Wire.length) := by
    unfold spec_GroupOK.lp9
    have := loop_all (step := fun rec => spec_GroupOK.step9 N x rec) (n := x.Wire.length) (st := fun i => (i : Int)) (p := fun i => msgB (mx x.Wire i)) (f := some false) (t := some true) (fun i hi rec => by
      simp only [spec_GroupOK.step9, lt_dec hi, nn_dec, cond_true, Int.toNat_natCast, mxe, specMsg hN _ (mx_fit h.WireW hi), ob_some]
      rw [w_up i _ hi hw]
      cases msgB (mx x.Wire i) <;> rfl) (fun rec => by simp [spec_GroupOK.step9]) x.Wire.length 0 N (by omega) (by simp only [M20] at hw; omega)
    refine (show _ = _ from this).trans ?_
    cases allF (fun i => msgB (mx x.Wire i)) 0 x.Wire.length <;> rfl
  unfold spec_GroupOK.lp4
  have := loop_all (step := fun rec => spec_GroupOK.step4 N x (spec_GroupOK.lp9 N x) rec) (n := x.Nodes.length) (st := fun i => (i : Int)) (p := fun i => okB (nx x.Nodes i) && !((nx x.Nodes i).Id != (i : Int))) (f := some false) (t := some (allF (fun i => msgB (mx x.Wire i)) 0 x.Wire.length)) (fun i hi rec => by
    simp only [spec_GroupOK.step4, lt_dec hi, nn_dec, cond_true, Int.toNat_natCast, nxe, specOK hN _ (nx_fit h.NodesW hi).sz (nx_fit h.NodesW hi).data, ob_some, cond_false]
    rw [w_up i _ hi hn]
    cases okB (nx x.Nodes i) <;> cases (nx x.Nodes i).Id != (i : Int) <;> rfl) (fun rec => by
    simp only [spec_GroupOK.step4, ge_dec, cond_false]; exact h9) x.Nodes.length 0 N (by omega) (by simp only [M20] at hn; omega)
  refine (show _ = _ from this).trans ?_
  cases allF (fun i => okB (nx x.Nodes i) && !((nx x.Nodes i).Id != (i : Int))) 0 x.Nodes.length <;> rfl
theorem implWire {N : Nat} (hN : Big N) (a : List Message) (hl : a.length ≤ M20) (h : ∀ x ∈ a, MsgSz x) : slices_ContainsFunc_impl_Message_impl_Message__impl_GroupOK_1.m N a = some (!allF (fun i => msgB (mx a i)) 0 a.length) := by
  unfold slices_ContainsFunc_impl_Message_impl_Message__impl_GroupOK_1.m slices_IndexFunc_impl_Message_impl_Message__impl_GroupOK_1.m slices_IndexFunc_impl_Message_impl_Message__impl_GroupOK_1.lp2
  obtain ⟨y, hy, hd⟩ := loop_idx (step := fun rec => slices_IndexFunc_impl_Message_impl_Message__impl_GroupOK_1.step2 N a rec) (n := a.length) (st := fun i => ((a.length : Int), (i : Int))) (p := fun i => !msgB (mx a i)) (fun i hi rec => by
    simp only [slices_IndexFunc_impl_Message_impl_Message__impl_GroupOK_1.step2, lt_dec hi, nn_dec, cond_true, Int.toNat_natCast, impl_GroupOK_1.m, mxe, implMsg hN _ (mx_fit h hi), ob_some]
    rw [w_up i _ hi hl]) (fun rec => by simp [slices_IndexFunc_impl_Message_impl_Message__impl_GroupOK_1.step2]) a.length 0 N (by omega) (by simp only [M20] at hl; omega)
  have hy : miter (fun rec => slices_IndexFunc_impl_Message_impl_Message__impl_GroupOK_1.step2 N a rec) N ((a.length : Int), 0) = some y := hy
  rw [hy, ob_some, hd]
  simp
theorem implGroup {N : Nat} (hN : Big N) (x : Group) (h : GroupSz x) : impl_GroupOK.m N x = some (grpB x) := by
  unfold impl_GroupOK.m grpB impl_isList_impl_Lead.m impl_isList_impl_Done.m
  simp only [within, ob_some, cond_false]
  have e1 : decide ((x.Leads.length : Int) ≤ 4096) = !decide ((x.Leads.length : Int) > 4096) := by rw [Bool.eq_iff_iff]; simp
  have e2 : decide ((x.Dones.length : Int) ≤ 4096) = !decide ((x.Dones.length : Int) > 4096) := by rw [Bool.eq_iff_iff]; simp
  rw [e1, e2]
  refine ifNot (ifNo (ifNot (ifNot ?_)))
  have hn := h.Nodes
  unfold impl_GroupOK.lp4
  have := loop_all (step := fun rec => impl_GroupOK.step4 N x rec) (n := x.Nodes.length) (st := fun i => ((x.Nodes.length : Int), (i : Int))) (p := fun i => okB (nx x.Nodes i) && !((nx x.Nodes i).Id != (i : Int))) (f := some false) (t := some (allF (fun i => msgB (mx x.Wire i)) 0 x.Wire.length)) (fun i hi rec => by
    simp only [impl_GroupOK.step4, lt_dec hi, nn_dec, cond_true, Int.toNat_natCast, nxe, implOK hN _ (nx_fit h.NodesW hi).sz (nx_fit h.NodesW hi).data, ob_some, cond_false]
    rw [w_up i _ hi hn]
    cases okB (nx x.Nodes i) <;> cases (nx x.Nodes i).Id != (i : Int) <;> rfl) (fun rec => by
    simp only [impl_GroupOK.step4, ge_dec, cond_false, implWire hN _ h.Wire h.WireW, ob_some, Bool.not_not]) x.Nodes.length 0 N (by omega) (by simp only [M20] at hn; omega)
  refine (show _ = _ from this).trans ?_
  cases allF (fun i => okB (nx x.Nodes i) && !((nx x.Nodes i).Id != (i : Int))) 0 x.Nodes.length <;> rfl
end Mir.Y
