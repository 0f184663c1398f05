/- Pure laws: NodePropose. -/
import Derived.Test.YtigmgeablmomnaaONP1
namespace Mir.Y
set_option linter.unusedVariables false
set_option linter.unusedSimpArgs false
open Go
def notId (x : Node) (v : Int) : Bool := !(v == x.Id)
theorem idxFirst {N : Nat} (hN : Big N) (w : worker) (M : List Int) (hl : M.length ≤ 100) : ∃ y : Int, slices_IndexFunc_int_int__impl_worker_others_1.m N M w = some y ∧ ((y = -1 ∧ M.filter (notId w.Node) = M) ∨ ∃ i : Nat, y = (i : Int) ∧ i < M.length ∧ (M.take i).filter (notId w.Node) = M.take i ∧ ix M i = w.Node.Id) := by
  unfold slices_IndexFunc_int_int__impl_worker_others_1.m slices_IndexFunc_int_int__impl_worker_others_1.lp2
  have go : ∀ (k i K : Nat), i + k = M.length → k < K → (M.take i).filter (notId w.Node) = M.take i → ∃ y : Int, miter (fun rec => slices_IndexFunc_int_int__impl_worker_others_1.step2 N M w rec) K ((M.length : Int), (i : Int)) = some y ∧ ((y = -1 ∧ M.filter (notId w.Node) = M) ∨ ∃ i : Nat, y = (i : Int) ∧ i < M.length ∧ (M.take i).filter (notId w.Node) = M.take i ∧ ix M i = w.Node.Id) := by
    intro k
    induction k with
    | zero =>
      intro i K hi hK hf
      obtain ⟨K, rfl⟩ : ∃ j, K = j + 1 := ⟨K - 1, by omega⟩
      obtain rfl : i = M.length := by omega
      rw [List.take_length] at hf
      refine ⟨-1, ?_, .inl ⟨rfl, hf⟩⟩
      have un : ∀ (g : (Int × Int → Option Int) → Int × Int → Option Int) (s), miter g (K + 1) s = g (miter g K) s := fun _ _ => rfl
      rw [un]
      simp only [slices_IndexFunc_int_int__impl_worker_others_1.step2, ge_dec, cond_false]
    | succ k ih =>
      intro i K hi hK hf
      obtain ⟨K, rfl⟩ : ∃ j, K = j + 1 := ⟨K - 1, by omega⟩
      have hil : i < M.length := by omega
      have un : ∀ (g : (Int × Int → Option Int) → Int × Int → Option Int) (s), miter g (K + 1) s = g (miter g K) s := fun _ _ => rfl
      rw [un]
      generalize hr : miter (fun rec => slices_IndexFunc_int_int__impl_worker_others_1.step2 N M w rec) K = rec
      simp only [slices_IndexFunc_int_int__impl_worker_others_1.step2, lt_dec hil, nn_dec, cond_true, Int.toNat_natCast, ixe, impl_worker_others_1.m, ob_some]
      rw [w_up i _ hil (by omega)]
      cases he : ix M i == w.Node.Id with
      | true => exact ⟨(i : Int), rfl, .inr ⟨i, rfl, hil, hf, by simpa using he⟩⟩
      | false =>
        rw [cond_false, ← hr]
        refine ih (i + 1) K (by omega) (by omega) ?_
        have ht : M.take (i + 1) = M.take i ++ [ix M i] := by rw [List.take_add_one, List.getElem?_eq_getElem hil, ix, getD_at hil]; rfl
        rw [ht, List.filter_append, hf]
        have : notId w.Node (ix M i) = true := by unfold notId; rw [he]; rfl
        simp [List.filter, this]
  exact go M.length 0 N (by omega) (by omega) rfl
theorem delId {N : Nat} (hN : Big N) (w : worker) (M : List Int) (hl : M.length ≤ 100) : slices_DeleteFunc_int_int__impl_worker_others_1.m N M w = some (M.filter (notId w.Node)) := by
  unfold slices_DeleteFunc_int_int__impl_worker_others_1.m
  rw [workEta]
  obtain ⟨y, hy, h⟩ := idxFirst hN w M hl
  rw [hy, ob_some]
  rcases h with ⟨rfl, hf⟩ | ⟨i, rfl, hi, hf, he⟩
  · rw [hf]; rfl
  have e1 : ((i : Int) == -1) = false := by rw [beq_eq_false_iff_ne]; omega
  rw [e1, cond_false, w_up i _ hi (by omega)]
  unfold slices_DeleteFunc_int_int__impl_worker_others_1.lp5
  have go : ∀ (k j K v0 : Nat) (v2 : List Int), j + k = M.length → k < K → v2.length = M.length → v0 < j → v2.take v0 = (M.take j).filter (notId w.Node) → (∀ p, j ≤ p → ix v2 p = ix M p) → miter (fun rec => slices_DeleteFunc_int_int__impl_worker_others_1.step5 N M w rec) K ((v0 : Int), (j : Int), v2) = some (M.filter (notId w.Node)) := by
    intro k
    induction k with
    | zero =>
      intro j K v0 v2 hj hK h2 h0 ht hp
      obtain ⟨K, rfl⟩ : ∃ j, K = j + 1 := ⟨K - 1, by omega⟩
      obtain rfl : j = M.length := by omega
      rw [List.take_length] at ht
      have un : ∀ (g : (Int × Int × List Int → Option (List Int)) → Int × Int × List Int → Option (List Int)) (s), miter g (K + 1) s = g (miter g K) s := fun _ _ => rfl
      rw [un]
      simp only [slices_DeleteFunc_int_int__impl_worker_others_1.step5]
      have d1 : decide (((M.length : Nat) : Int) < ((v2.length : Nat) : Int)) = false := decide_eq_false (by omega)
      have d2 : decide ((v0 : Int) ≤ ((v2.length : Nat) : Int)) = true := decide_eq_true (by omega)
      have d3 : decide (v0 + (v2.length - v0) ≤ v2.length) = true := decide_eq_true (by omega)
      have hw : (v2.take v0 ++ (List.replicate (v2.length - v0) (0:Int) ++ v2.drop (v0 + (v2.length - v0)))).length = v2.length := by simp; omega
      rw [d1, cond_false, nn_dec, Int.toNat_natCast, d2, d3, hw, d2, Nat.zero_add, Nat.sub_zero, decide_eq_true (show v0 ≤ v2.length by omega), List.drop_zero, List.take_append_of_le_length (by rw [List.length_take]; omega), List.take_of_length_le (by rw [List.length_take]; omega), ht]
      rfl
    | succ k ih =>
      intro j K v0 v2 hj hK h2 h0 ht hp
      obtain ⟨K, rfl⟩ : ∃ j, K = j + 1 := ⟨K - 1, by omega⟩
      have hjl : j < M.length := by omega
      have hj2 : j < v2.length := by omega
      have h02 : v0 < v2.length := by omega
      have un : ∀ (g : (Int × Int × List Int → Option (List Int)) → Int × Int × List Int → Option (List Int)) (s), miter g (K + 1) s = g (miter g K) s := fun _ _ => rfl
      rw [un]
      generalize hr : miter (fun rec => slices_DeleteFunc_int_int__impl_worker_others_1.step5 N M w rec) K = rec
      have htk : M.take (j + 1) = M.take j ++ [ix M j] := by rw [List.take_add_one, List.getElem?_eq_getElem hjl, ix, getD_at hjl]; rfl
      simp only [slices_DeleteFunc_int_int__impl_worker_others_1.step5, lt_dec hj2, lt_dec h02, nn_dec, cond_true, Int.toNat_natCast, ixe, hp j (Nat.le_refl _), impl_worker_others_1.m, ob_some]
      rw [w_up j _ hjl (by omega), w_up v0 _ (show v0 < M.length by omega) (by omega)]
      cases he : ix M j == w.Node.Id with
      | true =>
        rw [Bool.not_true, cond_false, ← hr]
        refine ih (j + 1) K v0 v2 (by omega) (by omega) h2 (by omega) ?_ (fun p h => hp p (by omega))
        have : notId w.Node (ix M j) = false := by unfold notId; rw [he]; rfl
        rw [ht, htk, List.filter_append]
        simp [List.filter, this]
      | false =>
        rw [Bool.not_false, cond_true, ← hr]
        refine ih (j + 1) K (v0 + 1) (v2.set v0 (ix M j)) (by omega) (by omega) (by rw [List.length_set]; exact h2) (by omega) ?_ (fun p h => ?_)
        · have : notId w.Node (ix M j) = true := by unfold notId; rw [he]; rfl
          rw [htk, List.filter_append, ← ht]
          have hset : (v2.set v0 (ix M j)).take (v0 + 1) = v2.take v0 ++ [ix M j] := by
            rw [List.take_add_one, List.getElem?_set_self h02, List.take_set_of_le (Nat.le_refl _)]; rfl
          rw [hset]
          simp [List.filter, this]
        · rw [← hp p (by omega), ix, ix, List.getD_eq_getElem?_getD, List.getElem?_set_ne (by omega), ← List.getD_eq_getElem?_getD]; rfl
  refine go (M.length - (i + 1)) (i + 1) N i M (by omega) (by omega) rfl (by omega) ?_ (fun p _ => rfl)
  have htk : M.take (i + 1) = M.take i ++ [ix M i] := by rw [List.take_add_one, List.getElem?_eq_getElem hi, ix, getD_at hi]; rfl
  have : notId w.Node (ix M i) = false := by unfold notId; rw [he]; simp
  rw [htk, List.filter_append, hf]
  simp [List.filter, this]
/-! ### What is told -/
def tv (x : Node) (a : Int) : Int := bif a == 0 then 0 else (ex x.Log (a - 1).toNat).Term
theorem termV {N : Nat} (x : Node) (a : Int) (h0 : 0 ≤ a) (h1 : a ≤ x.Log.length) (hl : x.Log.length ≤ 100) : spec_l10Term.m N x a = some (tv x a) := by
  unfold spec_l10Term.m tv
  by_cases h : a = 0
  · rw [h]; rfl
  · have e : (a == 0) = false := by rw [beq_eq_false_iff_ne]; exact h
    rw [e, w_small (by omega) (by omega), decide_eq_true (show 0 ≤ a - 1 by omega), decide_eq_true (show a - 1 < x.Log.length by omega)]
    rfl
def msgTo (x : Node) (to : Int) : Message := ⟨3, x.Id, to, x.Term, ix x.Next to.toNat - 1, tv x (ix x.Next to.toNat - 1), x.Commit, x.Log.drop (ix x.Next to.toNat - 1).toNat, false⟩
structure Tells (x : Node) : Prop where
  n7 : x.Next.length = 7
  nx : ∀ j, j < 7 → 1 ≤ ix x.Next j ∧ ix x.Next j ≤ x.Log.length + 1
  ll : x.Log.length ≤ 100
theorem specApp {N : Nat} (hN : Big N) (x : Node) (h : Tells x) (to : Int) (h0 : 0 ≤ to) (h6 : to ≤ 6) : spec_l10Append.m N x to = some (msgTo x to) := by
  unfold spec_l10Append.m
  have hn := h.nx to.toNat (by omega)
  have hl := h.ll
  have e : w64 (ix x.Next to.toNat - 1) = ix x.Next to.toNat - 1 := w_small (by omega) (by omega)
  rw [ixe, e, decide_eq_true h0, decide_eq_true (show to < (x.Next.length : Int) by rw [h.n7]; omega), termV x _ (by omega) (by omega) hl, decide_eq_true (show 0 ≤ ix x.Next to.toNat - 1 by omega), decide_eq_true (show ix x.Next to.toNat - 1 ≤ ((x.Log.length : Nat) : Int) by omega)]
  simp only [cond_true, ob_some]
  rw [roomB (by rw [List.length_drop]; simp; omega) (by omega)]
  rfl
theorem implTell {N : Nat} (hN : Big N) (x : Node) (h : Tells x) (sent : List Message) (hs : sent.length ≤ 100) (to : Int) (h0 : 0 ≤ to) (h6 : to ≤ 6) : impl_worker_tell_.m N ⟨x, sent⟩ to x.Commit = some ⟨x, sent ++ [msgTo x to]⟩ := by
  unfold impl_worker_tell_.m impl_worker_send_.m
  have hn := h.nx to.toNat (by omega)
  have hl := h.ll
  have e : w64 (ix x.Next to.toNat - 1) = ix x.Next to.toNat - 1 := w_small (by omega) (by omega)
  have et := termV (N := N) x (ix x.Next to.toNat - 1) (by omega) (by omega) hl
  rw [← term_eq] at et
  simp only [ixe, e, decide_eq_true h0, decide_eq_true (show to < (x.Next.length : Int) by rw [h.n7]; omega), et, decide_eq_true (show 0 ≤ ix x.Next to.toNat - 1 by omega), decide_eq_true (show ix x.Next to.toNat - 1 ≤ ((x.Log.length : Nat) : Int) by omega), cond_true, ob_some]
  have hd : (x.Log.drop (ix x.Next to.toNat - 1).toNat).take (x.Log.length - (ix x.Next to.toNat - 1).toNat) = x.Log.drop (ix x.Next to.toNat - 1).toNat := List.take_of_length_le (by rw [List.length_drop]; omega)
  rw [hd, cloneEnt N _ (by rw [List.length_drop]; omega), decide_eq_true (show (ix x.Next to.toNat - 1).toNat + (x.Log.length - (ix x.Next to.toNat - 1).toNat) ≤ x.Log.length by omega), cond_true, ob_some, roomB (by rw [List.length_singleton]; omega) (by omega), cond_true, ob_some]
  rfl
def told (x : Node) (M : List Int) : List Message := (M.filter (notId x)).map (msgTo x)
theorem told_len {x : Node} {M : List Int} (hM : Mem M) : (told x M).length ≤ 7 := by
  unfold told
  have := List.length_filter_le (notId x) M
  have := hM.len
  rw [List.length_map]; omega
theorem told_ent {x : Node} {M : List Int} (h : Tells x) : ∀ m ∈ told x M, m.Entries.length ≤ 100 := by
  intro m hm
  unfold told at hm
  obtain ⟨v, _, rfl⟩ := List.mem_map.1 hm
  have := h.ll
  show (x.Log.drop _).length ≤ 100
  rw [List.length_drop]; omega
theorem specTell {N : Nat} (hN : Big N) (x : Node) (M : List Int) (hms : spec_l10Members.m N x = some M) (hM : Mem M) (h : Tells x) : spec_l10Tell.m N x = some (told x M) := by
  unfold spec_l10Tell.m
  rw [hms, ob_some]
  unfold spec_l10Tell.lp4
  have hl := hM.len
  have := miter_up (step := fun rec => spec_l10Tell.step4 N x rec) (n := M.length) (st := fun i => (M, (i : Int), ((M.take i).filter (notId x)).map (msgTo x))) (r := some (told x M)) (fun i hi rec => by
    have hx := hM.lo _ (ix_mem hi)
    have hle : (((M.take i).filter (notId x)).map (msgTo x)).length ≤ 100 := by
      have := List.length_filter_le (notId x) (M.take i)
      rw [List.length_take] at this
      rw [List.length_map]; omega
    have htk : M.take (i + 1) = M.take i ++ [ix M i] := by rw [List.take_add_one, List.getElem?_eq_getElem hi, ix, getD_at hi]; rfl
    simp only [spec_l10Tell.step4, lt_dec hi, nn_dec, cond_true, Int.toNat_natCast, ixe, specApp hN x h _ hx.1 hx.2, ob_some]
    rw [w_up i _ hi (by omega), roomB (by rw [List.length_singleton]; omega) (by omega), cond_true, htk, List.filter_append, List.map_append]
    have hb : (ix M i != x.Id) = notId x (ix M i) := rfl
    rw [hb]
    cases hq : notId x (ix M i) <;> simp [List.filter, hq]) (fun rec => by
    simp only [spec_l10Tell.step4, ge_dec, cond_false, List.take_length]
    rfl) M.length 0 N (by omega) (by omega)
  exact this
theorem implTellAll {N : Nat} (hN : Big N) (x : Node) (M : List Int) (hmi : impl_Node_members.m N x = some M) (hM : Mem M) (h : Tells x) : impl_worker_tellAll.m N ⟨x, []⟩ x.Commit = some ⟨x, told x M⟩ := by
  unfold impl_worker_tellAll.m impl_worker_others_.m
  have hl := hM.len
  have hd := delId hN ⟨x, []⟩ M (by omega)
  simp only [nodeEta]
  rw [hmi, ob_some, hd, ob_some, ob_some]
  generalize hO : M.filter (notId (worker.mk x []).Node) = O
  have hO' : M.filter (notId x) = O := hO
  have hOl : O.length ≤ 7 := by rw [← hO']; have := List.length_filter_le (notId x) M; omega
  have hOm : ∀ v ∈ O, 0 ≤ v ∧ v ≤ 6 := fun v hv => by rw [← hO'] at hv; exact hM.lo v (List.mem_filter.1 hv).1
  unfold impl_worker_tellAll.lp1
  have := miter_up (step := fun rec => impl_worker_tellAll.step1 N ⟨x, []⟩ x.Commit rec) (n := O.length) (st := fun i => ((O.length : Int), (i : Int), x.Id, x.Term, x.Vote, x.Role, x.Commit, x.Elapsed, x.Wait, x.Up, x.Log, x.Start, x.Votes, x.Next, x.Match, (O.take i).map (msgTo x), O)) (r := some ⟨x, told x M⟩) (fun i hi rec => by
    have hx := hOm _ (ix_mem hi)
    have hle : ((O.take i).map (msgTo x)).length ≤ 100 := by rw [List.length_map, List.length_take]; omega
    have htk : O.take (i + 1) = O.take i ++ [ix O i] := by rw [List.take_add_one, List.getElem?_eq_getElem hi, ix, getD_at hi]; rfl
    have ht := implTell hN x h ((O.take i).map (msgTo x)) hle (ix O i) hx.1 hx.2
    simp only [impl_worker_tellAll.step1, lt_dec hi, nn_dec, cond_true, Int.toNat_natCast, ixe, nodeEta, ht, ob_some]
    rw [w_up i _ hi (by omega), htk, List.map_append]
    rfl) (fun rec => by
    simp only [impl_worker_tellAll.step1, ge_dec, cond_false, List.take_length, told, hO']) O.length 0 N (by omega) (by omega)
  exact this
/-! ### Propose -/
theorem copyN {N : Nat} (x : Node) (h : NodeSz x M20) : impl_copyNode.m N x = some x := by
  unfold impl_copyNode.m
  rw [cloneEnt N _ h.Log, ob_some, cloneInt N _ h.Start, ob_some, cloneInt N _ h.Votes, ob_some, cloneInt N _ h.Next, ob_some, cloneInt N _ h.Match, ob_some]
theorem ownS {N : Nat} (x : Node) (h : NodeSz x M20) : spec_l10Own.m N x = some x := by
  unfold spec_l10Own.m
  have h1 := h.Log; have h2 := h.Start; have h3 := h.Votes; have h4 := h.Next; have h5 := h.Match
  rw [roomB (by simpa using h1) (by omega), roomB (by simpa using h2) (by omega), roomB (by simpa using h3) (by omega), roomB (by simpa using h4) (by omega), roomB (by simpa using h5) (by omega)]
  rfl
def nextN (x : Node) (d : ByteArray) : Node := ⟨x.Id, x.Term, x.Vote, x.Log ++ [⟨x.Term, 1, d⟩], x.Start, x.Role, x.Votes, x.Next, x.Match, x.Commit, x.Elapsed, x.Wait, x.Up⟩
structure OkN (x : Node) : Prop where
  m : allMem x.Log
  s : idsB (ix x.Start) x.Start.length = true
  c0 : 0 ≤ x.Commit
  c1 : x.Commit ≤ x.Log.length
  n7 : x.Next.length = 7
  m7 : x.Match.length = 7
  nx : ∀ j, j < 7 → 1 ≤ ix x.Next j ∧ ix x.Next j ≤ x.Log.length + 1
  ll : x.Log.length ≤ 60
theorem okN {x : Node} (h : okB x = true) : OkN x := by
  have hm := okMem h
  have hc := okCommit h
  unfold okB at h
  simp only [Bool.and_eq_true, decide_eq_true_eq] at h
  obtain ⟨_, hs, h3, _, _, _, h7, h8, _, _, _, hr, _⟩ := h
  unfold stB at hs
  simp only [Bool.and_eq_true, decide_eq_true_eq] at hs
  have hll : x.Log.length ≤ 60 := by have := hs.2.2.1; omega
  refine ⟨hm, h3, hc.1, hc.2, h7, h8, fun j hj => ?_, hll⟩
  unfold reachB at hr
  rw [allF_iff] at hr
  have := hr j (Nat.zero_le _) (by omega)
  unfold reachP inB at this
  simp only [Bool.and_eq_true, decide_eq_true_eq] at this
  rw [w_small (x := (x.Log.length : Int) + 1) (by omega) (by omega)] at this
  exact this.1
theorem ex_app {a : List Entry} {e : Entry} {j : Nat} (h : j < a.length) : ex (a ++ [e]) j = ex a j := by
  unfold ex
  rw [List.getD_eq_getElem?_getD, List.getElem?_append_left h, ← List.getD_eq_getElem?_getD]
theorem ex_last {a : List Entry} {e : Entry} : ex (a ++ [e]) a.length = e := by
  unfold ex
  rw [List.getD_eq_getElem?_getD, List.getElem?_append_right (Nat.le_refl _)]; simp
theorem propose {N : Nat} (hN : Big N) (x : Node) (d : ByteArray) (hs : NodeSz x M20) (hd : NodeData x) (hk : okB x = true) (hdz : d.size ≤ M20) : ∃ r : Node × List Message × Int, spec_l10Propose.m N x ⟨0, 1, d⟩ = some r ∧ impl_propose.m N x 1 d = some r ∧ NodeSz r.1 1048576 ∧ r.2.1.length ≤ 10 ∧ ∀ m ∈ r.2.1, m.Entries.length ≤ 100 := by
  have ok := okN hk
  unfold spec_l10Propose.m impl_propose.m
  simp only [nodeEta]
  rw [copyN x hs, ob_some, ob_some, ob_some, ob_some, ownS x hs, ob_some]
  cases hup : x.Up with
  | false => exact ⟨(x, [], 5), rfl, rfl, hs, Nat.zero_le _, fun m hm => absurd hm List.not_mem_nil⟩
  | true =>
  cases hro : (x.Role != 2) with
  | true => exact ⟨(x, [], 14), rfl, rfl, hs, Nat.zero_le _, fun m hm => absurd hm List.not_mem_nil⟩
  | false =>
  cases hfu : ((x.Log.length : Int) == 60) with
  | true => exact ⟨(x, [], 7), rfl, rfl, hs, Nat.zero_le _, fun m hm => absurd hm List.not_mem_nil⟩
  | false =>
  have hll := ok.ll
  rw [Bool.not_true, cond_false, cond_false, cond_false, cond_false, cond_false, cond_false, roomB (by rw [List.length_singleton]; omega) (by omega), cond_true, cond_true]
  -- the node with one entry more
  have hl1 : (nextN x d).Log.length = x.Log.length + 1 := by show (x.Log ++ [_]).length = _; simp
  have hs1 : NodeSz (nextN x d) M20 := ⟨by rw [hl1]; simp only [M20]; omega, hs.2, hs.3, hs.4, hs.5⟩
  have hd1 : NodeData (nextN x d) := by
    intro e he
    have he : e ∈ x.Log ++ [⟨x.Term, 1, d⟩] := he
    rcases List.mem_append.1 he with he | he
    · exact hd e he
    · rw [List.mem_singleton] at he; subst he; exact hdz
  have hm1 : allMem (nextN x d).Log := by
    intro j hj
    rw [hl1] at hj
    show ((ex (x.Log ++ [_]) j).Kind == 2) = true → _
    by_cases hjl : j < x.Log.length
    · intro hkk
      have hkk : ((ex (x.Log ++ [⟨x.Term, 1, d⟩]) j).Kind == 2) = true := hkk
      rw [ex_app hjl] at hkk
      show memB (ex (x.Log ++ [_]) j).Data = true
      rw [ex_app hjl]
      exact ok.m j hjl hkk
    · obtain rfl : j = x.Log.length := by omega
      intro hkk
      have hkk : ((ex (x.Log ++ [⟨x.Term, 1, d⟩]) x.Log.length).Kind == 2) = true := hkk
      rw [ex_last] at hkk
      cases hkk
  have hMids := memL_ids ok.s hm1 (nextN x d).Log.length (Nat.le_refl _)
  have hM := mem_of hMids
  have hms : ∀ c : Int, spec_l10Members.m N (withC (nextN x d) c) = some (memL (nextN x d).Log x.Start (nextN x d).Log.length) := fun c => l10Members hN (withC (nextN x d) c) hs1.Log hd1 hm1
  have hmi : ∀ x' : Node, x'.Log = (nextN x d).Log → x'.Start = (nextN x d).Start → impl_Node_members.m N x' = some (memL (nextN x d).Log x.Start (nextN x d).Log.length) := by
    intro x' e1 e2
    have base := implMembers hN (nextN x d) hs1 hd1
    have : impl_Node_members.m N x' = impl_Node_members.m N (nextN x d) := by
      unfold impl_Node_members.m
      rw [e1, e2]
    rw [this, base]; rfl
  generalize hMM : memL (nextN x d).Log x.Start (nextN x d).Log.length = M at hM hms hmi
  have hms0 : spec_l10Members.m N (nextN x d) = some M := hms x.Commit
  obtain ⟨c, a1, a2, a3, a4⟩ := advance hN (nextN x d) M [] hms0 hmi hM ok.m7 (by omega) ok.c0 (by have := ok.c1; rw [hl1]; show x.Commit ≤ _; omega)
  have tl : Tells (withC (nextN x d) c) := ⟨ok.n7, fun j hj => by
    have := ok.nx j hj
    show 1 ≤ ix x.Next j ∧ ix x.Next j ≤ ((nextN x d).Log.length : Int) + 1
    rw [hl1]; push_cast; omega, by show (nextN x d).Log.length ≤ 100; omega⟩
  have t1 := specTell hN (withC (nextN x d) c) M (hms c) hM tl
  have t2 := implTellAll hN (withC (nextN x d) c) M (hmi _ rfl rfl) hM tl
  have hs2 : NodeSz (withC (nextN x d) c) M20 := ⟨hs1.1, hs1.2, hs1.3, hs1.4, hs1.5⟩
  refine ⟨(withC (nextN x d) c, told (withC (nextN x d) c) M, 0), ?_, ?_, hs2, by have := told_len (x := withC (nextN x d) c) hM; show (told _ M).length ≤ 10; omega, told_ent tl⟩
  · rw [← hup]
    show ob (spec_l10Advance.m N (nextN x d)) _ = _
    rw [a1, ob_some, t1]; rfl
  · rw [← hup]
    show ob (impl_worker_commit.m N ⟨nextN x d, []⟩) _ = _
    rw [a2, ob_some]
    show ob (impl_worker_tellAll.m N ⟨withC (nextN x d) c, []⟩ (withC (nextN x d) c).Commit) _ = _
    rw [t2, ob_some]
    unfold impl_worker_asNode.m
    simp only [nodeEta]
    rw [copyN _ hs2]; rfl
def zN : Node := ⟨0, 0, 0, [], [], 0, [], [], [], 0, 0, 0, false⟩
theorem zN_sz : NodeSz zN 1048576 := ⟨Nat.zero_le _, Nat.zero_le _, Nat.zero_le _, Nat.zero_le _, Nat.zero_le _⟩
theorem isTextN {N : Nat} (hN : Big N) (s : ByteArray) : impl_isText.m N [s] = some (!decide ((s.size : Int) > 65536)) := by
  obtain ⟨M, rfl⟩ : ∃ M, N = M + 9 := ⟨N - 9, by omega⟩
  unfold impl_isText.m slices_ContainsFunc_string_string__impl_isText_1.m slices_IndexFunc_string_string__impl_isText_1.m
  have : slices_IndexFunc_string_string__impl_isText_1.lp2 (M + 9) [s] ((([s] : List ByteArray).length : Int), 0) = bif decide ((s.size : Int) > 65536) then some 0 else some (-1) := by
    unfold slices_IndexFunc_string_string__impl_isText_1.lp2
    kernel_rfl
  rw [this]
  cases decide ((s.size : Int) > 65536) <;> rfl
theorem nodePropose {N : Nat} (hN : Big N) (x : Node) (d : ByteArray) (hs : NodeSz x M20) (hd : NodeData x) : ∃ r : Node × List Message × Int, spec_NodePropose.m N x d = some r ∧ impl_NodePropose.m N x d = some r ∧ NodeSz r.1 1048576 ∧ r.2.1.length ≤ 10 ∧ ∀ m ∈ r.2.1, m.Entries.length ≤ 100 := by
  unfold spec_NodePropose.m impl_NodePropose.m
  simp only [nodeEta]
  rw [isTextN hN, specOK hN x hs hd, implOK hN x hs hd, l01In, within]
  simp only [ob_some, cond_false]
  by_cases h5 : (d.size : Int) > 65536
  · rw [decide_eq_true h5]
    exact ⟨(zN, [], 2), rfl, rfl, zN_sz, Nat.zero_le _, fun m hm => absurd hm List.not_mem_nil⟩
  rw [decide_eq_false h5]
  cases hk : okB x with
  | false => exact ⟨(zN, [], 1), rfl, rfl, zN_sz, Nat.zero_le _, fun m hm => absurd hm List.not_mem_nil⟩
  | true =>
    cases hi : inB (d.size : Int) 1 100 with
    | false => exact ⟨(zN, [], 1), rfl, rfl, zN_sz, Nat.zero_le _, fun m hm => absurd hm List.not_mem_nil⟩
    | true =>
      obtain ⟨r, h1, h2, h3, h4, h5'⟩ := propose hN x d hs hd hk (by simp only [M20]; omega)
      refine ⟨r, ?_, ?_, h3, h4, h5'⟩
      · rw [h1]
        show ob (spec_l10Own.m N r.1) _ = _
        rw [ownS r.1 h3]; rfl
      · rw [h2]; rfl
theorem pureNodePropose (a0 : Node) (a1 : ByteArray) (h0 : ∃ n, WfE E (WfA E n) (.st 36) a0) (h1 : ∃ n, WfE E (WfA E n) .str a1) : ∃ N, laws_FnExactNodePropose.m N a0 a1 = some true := by
  refine ⟨16777216, ?_⟩
  generalize hN' : 16777216 = N
  have hN : Big N := by omega
  unfold laws_FnExactNodePropose.m
  by_cases hl : (a1.size : Int) > 1048576
  · rw [decide_eq_true hl]; rfl
  rw [decide_eq_false hl, cond_false]
  obtain ⟨y, e, _, hy⟩ := szNode hN a0 1048576 (by omega) (by omega) (wfNode h0)
  rw [nodeEta, e, ob_some]
  by_cases h : y < 0
  · rw [decide_eq_true h]; rfl
  rw [decide_eq_false h, cond_false]
  obtain ⟨hs, hd⟩ := hy (by omega)
  obtain ⟨r, p1, p2, p3, p4, p5⟩ := nodePropose hN a0 a1 hs hd
  simp only [toNode hN a0 hs, ob_some, nodeEta, p1, p2]
  obtain ⟨k1, y1, hm1, _, _, hk1, _, _⟩ := markNode hN a0 1 hs (by omega) (by omega)
  obtain ⟨k, z, hm, _, hh, hk, hk', hf⟩ := markNode hN r.1 1 p3 (by omega) (by omega)
  have q1 := eqMsgS hN r.2.1 (by omega) (fun m hm => by have := p5 m hm; omega)
  have q2 := markMsgS hN r.2.1 k (by omega) p4 (by omega) p5
  have q3 := heldMsgS hN r.2.1 k (by omega) p4 (by omega) p5
  have q4 := marks_msg N r.2.1 k (by omega) (by omega) p5
  simp only [eqNode hN r.1 p3, eqNode hN a0 hs, hm1, hm, ob_some, mkNode r.1 z hf, hh, q1, q2, q3, Bool.not_true, cond_false, bne_self_eq_false, decide_eq_false (show ¬ k1 < 0 by omega), decide_eq_false (show ¬ k < 0 by omega), decide_eq_false (show ¬ (marks (fMsg N) k r.2.1).1 < 0 by omega)]
end Mir.Y
