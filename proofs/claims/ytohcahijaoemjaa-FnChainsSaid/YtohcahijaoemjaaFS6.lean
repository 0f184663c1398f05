/- Pure laws: VerifySignature. -/
import Derived.Test.YtohcahijaoemjaaFS5
namespace Mir.Y
set_option linter.unusedVariables false
set_option linter.unusedSimpArgs false
open Go
/-! ### Rows of texts -/
def bx (l : List ByteArray) (i : Nat) : ByteArray := l.getD i ByteArray.empty
theorem bxe (l : List ByteArray) (i : Nat) : l.getD i ByteArray.empty = bx l i := rfl
theorem isText {N : Nat} (hN : Big N) (l : List ByteArray) (h : l.length ≤ 1048576) : impl_isText.m N l = some (allF (fun i => !decide (((bx l i).size : Int) > 65536)) 0 l.length) := by
  unfold impl_isText.m slices_ContainsFunc_string_string__impl_isText_1.m slices_IndexFunc_string_string__impl_isText_1.m slices_IndexFunc_string_string__impl_isText_1.lp2
  obtain ⟨y, hy, hd⟩ := loop_idx (step := fun rec => slices_IndexFunc_string_string__impl_isText_1.step2 N l rec) (n := l.length) (st := fun i => ((l.length : Int), (i : Int))) (p := fun i => decide (((bx l i).size : Int) > 65536)) (fun i hi rec => by
    simp only [slices_IndexFunc_string_string__impl_isText_1.step2, lt_dec hi, nn_dec, cond_true, Int.toNat_natCast, impl_isText_1.m, bxe, ob_some]
    rw [w_up i _ hi h]
    by_cases hc : ((bx l i).size : Int) > 65536 <;> simp [hc]) (fun rec => by simp [slices_IndexFunc_string_string__impl_isText_1.step2]) l.length 0 N (by omega) (by omega)
  have hy : miter (fun rec => slices_IndexFunc_string_string__impl_isText_1.step2 N l rec) N ((l.length : Int), 0) = some y := hy
  rw [hy, ob_some, ob_some, hd]
  simp
def hshB (l : List ByteArray) : Bool := allF (fun i => !(((bx l i).size : Int) != 32)) 0 l.length
theorem isHash {N : Nat} (hN : Big N) (l : List ByteArray) (h : l.length ≤ 1048576) : impl_isHash.m N l = some (hshB l) := by
  unfold impl_isHash.m slices_ContainsFunc_string_string__impl_isHash_1.m slices_IndexFunc_string_string__impl_isHash_1.m slices_IndexFunc_string_string__impl_isHash_1.lp2
  obtain ⟨y, hy, hd⟩ := loop_idx (step := fun rec => slices_IndexFunc_string_string__impl_isHash_1.step2 N l rec) (n := l.length) (st := fun i => ((l.length : Int), (i : Int))) (p := fun i => ((bx l i).size : Int) != 32) (fun i hi rec => by
    simp only [slices_IndexFunc_string_string__impl_isHash_1.step2, lt_dec hi, nn_dec, cond_true, Int.toNat_natCast, impl_isHash_1.m, bxe, ob_some]
    rw [w_up i _ hi h]) (fun rec => by simp [slices_IndexFunc_string_string__impl_isHash_1.step2]) l.length 0 N (by omega) (by omega)
  have hy : miter (fun rec => slices_IndexFunc_string_string__impl_isHash_1.step2 N l rec) N ((l.length : Int), 0) = some y := hy
  rw [hy, ob_some, ob_some, hd]
  simp [hshB]
theorem hashesS {N : Nat} (hN : Big N) (l : List ByteArray) (h : l.length ≤ 1048576) : spec_l06Hashes.m N l = some (!decide ((l.length : Int) > 64) && hshB l) := by
  unfold spec_l06Hashes.m
  refine ifNo ?_
  unfold spec_l06Hashes.lp4
  have := loop_all (step := fun rec => spec_l06Hashes.step4 N l rec) (n := l.length) (st := fun i => (i : Int)) (p := fun i => !(((bx l i).size : Int) != 32)) (f := some false) (t := some true) (fun i hi rec => by
    simp only [spec_l06Hashes.step4, lt_dec hi, nn_dec, cond_true, Int.toNat_natCast, bxe]
    rw [w_up i _ hi h]
    cases ((bx l i).size : Int) != 32 <;> rfl) (fun rec => by simp [spec_l06Hashes.step4]) l.length 0 N (by omega) (by omega)
  refine (show _ = _ from this).trans ?_
  unfold hshB
  cases allF (fun i => !(((bx l i).size : Int) != 32)) 0 l.length <;> rfl
theorem hsh_at {l : List ByteArray} (h : hshB l = true) {i : Nat} (hi : i < l.length) : (bx l i).size = 32 := by
  have := allF_iff.1 h i (Nat.zero_le _) (by omega)
  have : ((bx l i).size : Int) = 32 := by simpa using this
  omega
/-! ### Up a tree of four -/
theorem specNode' {N : Nat} (hN : Big N) (a b : ByteArray) (ha : a.size ≤ 64) (hb' : b.size ≤ 64) : spec_l06Node.m N a b = some (ndH a b) := by
  unfold spec_l06Node.m
  have hb1 : ([(1:Int)] ++ bytesOf a) ++ bytesOf b = bytesOf ((⟨#[1]⟩ ++ a) ++ b) := by
    rw [bytesOf_append, bytesOf_append]; rfl
  have hsz : ((⟨#[1]⟩ ++ a) ++ b : ByteArray).size ≤ 129 := by
    rw [size_append, size_append, q1]; omega
  rw [roomS (by rw [bytesOf_length]; simp; omega), roomS (by rw [List.length_append, bytesOf_length, bytesOf_length]; simp; omega), cond_true, cond_true, hb1, specHash hN _ (by omega)]
  rfl
theorem implNode' {N : Nat} (hN : Big N) (a b : ByteArray) (ha : a.size ≤ 64) (hb' : b.size ≤ 64) : impl_nodeHash.m N a b = some (ndH a b) := by
  unfold impl_nodeHash.m
  have hsz : ((⟨#[1]⟩ ++ a) ++ b : ByteArray).size ≤ 129 := by
    rw [size_append, size_append, q1]; omega
  simp only [size_append, q1]
  rw [cap63 (by omega), cap63 (by omega), cond_true, cond_true, implHash hN _ (by omega)]
  rfl
theorem half4 (M : Nat) : spec_l06Half.m (M + 9) 4 = some 2 := by unfold spec_l06Half.m spec_l06Half.lp2; kernel_rfl
theorem half2 (M : Nat) : spec_l06Half.m (M + 9) 2 = some 1 := by unfold spec_l06Half.m spec_l06Half.lp2; kernel_rfl
theorem split4 (M : Nat) : impl_split.m (M + 9) 4 = some 2 := by unfold impl_split.m impl_split.lp2; kernel_rfl
theorem split2 (M : Nat) : impl_split.m (M + 9) 2 = some 1 := by unfold impl_split.m impl_split.lp2; kernel_rfl
/-- Both hands at one knot. -/
def knot (l : Bool) (own other : ByteArray) : ByteArray := bif l then ndH own other else ndH other own
theorem up1 (N n : Nat) (x : ByteArray) (i : Int) (p : List ByteArray) : spec_l06Up.mF N (n + 1) x i 1 p = some (x, (p.length : Int) == 0) := rfl
theorem takeLast (p : List ByteArray) (h : 0 < p.length) (h2 : p.length ≤ 64) : w64 ((p.length : Int) - 1) = ((p.length - 1 : Nat) : Int) := w_dn _ h (by omega)
theorem up2 {M : Nat} (hN : Big (M + 9)) (n : Nat) (x : ByteArray) (i : Int) (p : List ByteArray) (hx : x.size = 32) (hi : i = 0 ∨ i = 1) (hp : p.length ≤ 64) (hs : ∀ y ∈ p, y.size = 32) :
    ∃ r, spec_l06Up.mF (M + 9) (n + 2) x i 2 p = some (r, decide (p.length = 1)) ∧ r.size ≤ 64 ∧ (p.length = 1 → r = knot (decide (i < 1)) x (bx p 0)) := by
  by_cases h0 : p.length = 0
  · obtain rfl := List.eq_nil_of_length_eq_zero h0
    exact ⟨ByteArray.empty, rfl, by decide, fun h => by simp at h⟩
  · have hlast : (bx p (p.length - 1)).size = 32 := by
      rw [bx, getD_at (show p.length - 1 < p.length by omega)]; exact hs _ (List.getElem_mem _)
    have e0 : ((p.length : Int) == 0) = false := by rw [beq_eq_false_iff_ne]; omega
    have et := takeLast p (by omega) hp
    have el : ((p.take (p.length - 1)).length : Int) = ((p.length - 1 : Nat) : Int) := by rw [List.length_take]; omega
    have eb : (((p.length - 1 : Nat) : Int) == 0) = decide (p.length = 1) := by rw [Bool.eq_iff_iff]; simp; omega
    show ∃ r, spec_l06Up.mb (M + 9) (spec_l06Up.mF (M + 9) (n + 1)) x i 2 p = some (r, _) ∧ _
    unfold spec_l06Up.mb
    rw [show ((2:Int) == 1) = false from rfl, cond_false, e0, cond_false, half2, ob_some, et, nn_dec, cond_true, lt_dec (show p.length - 1 < p.length by omega), cond_true, cond_true, decide_eq_true (show ((p.length - 1 : Nat) : Int) ≤ ((p.length : Nat) : Int) by omega), cond_true, Int.toNat_natCast]
    rcases hi with rfl | rfl
    · rw [decide_eq_true (show (0:Int) < 1 by omega), cond_true, up1, ob_some, specNode' hN _ _ (show x.size ≤ 64 by omega) (by rw [bxe]; omega), ob_some, el, eb, bxe]
      exact ⟨_, rfl, by rw [ndH_size]; omega, fun h => by rw [h]; rfl⟩
    · rw [decide_eq_false (show ¬ (1:Int) < 1 by omega), cond_false]
      have ew : w64 ((2:Int) - 1) = 1 := by rw [w_small (by omega) (by omega)]; rfl
      rw [ew, up1, ob_some, specNode' hN _ _ (by rw [bxe]; omega) (show x.size ≤ 64 by omega), ob_some, el, eb, bxe]
      exact ⟨_, rfl, by rw [ndH_size]; omega, fun h => by rw [h]; rfl⟩
def upV (x : ByteArray) (i : Int) (p : List ByteArray) : ByteArray := knot (decide (i < 2)) (knot (decide ((bif decide (i < 2) then i else i - 2) < 1)) x (bx p 0)) (bx p 1)
theorem up4 {N : Nat} (hN : Big N) (x : ByteArray) (i : Int) (p : List ByteArray) (hx : x.size = 32) (hi0 : 0 ≤ i) (hi3 : i ≤ 3) (hp : p.length ≤ 64) (hs : ∀ y ∈ p, y.size = 32) :
    ∃ r, spec_l06Up.m N x i 4 p = some (r, decide (p.length = 2)) ∧ (p.length = 2 → r = upV x i p) := by
  obtain ⟨M, rfl⟩ : ∃ M, N = M + 9 := ⟨N - 9, by omega⟩
  show ∃ r, spec_l06Up.mF (M + 9) ((M + 6) + 3) x i 4 p = some (r, _) ∧ _
  by_cases h0 : p.length = 0
  · obtain rfl := List.eq_nil_of_length_eq_zero h0
    exact ⟨ByteArray.empty, rfl, fun h => by simp at h⟩
  · have hlast : (bx p (p.length - 1)).size = 32 := by
      rw [bx, getD_at (show p.length - 1 < p.length by omega)]; exact hs _ (List.getElem_mem _)
    have e0 : ((p.length : Int) == 0) = false := by rw [beq_eq_false_iff_ne]; omega
    have et := takeLast p (by omega) hp
    have el : (p.take (p.length - 1)).length = p.length - 1 := by rw [List.length_take]; omega
    have e1 : decide ((p.take (p.length - 1)).length = 1) = decide (p.length = 2) := by rw [decide_eq_decide, el]; omega
    have hs' : ∀ y ∈ p.take (p.length - 1), y.size = 32 := fun y hy => hs y (List.mem_of_mem_take hy)
    have hb0 : p.length = 2 → bx (p.take (p.length - 1)) 0 = bx p 0 := fun h => by
      rw [h]; simp [bx, List.getD_eq_getElem?_getD]
    show ∃ r, spec_l06Up.mb (M + 9) (spec_l06Up.mF (M + 9) ((M + 6) + 2)) x i 4 p = some (r, _) ∧ _
    unfold spec_l06Up.mb
    rw [show ((4:Int) == 1) = false from rfl, cond_false, e0, cond_false, half4, ob_some, et, nn_dec, cond_true, lt_dec (show p.length - 1 < p.length by omega), cond_true, cond_true, decide_eq_true (show ((p.length - 1 : Nat) : Int) ≤ ((p.length : Nat) : Int) by omega), cond_true, Int.toNat_natCast]
    by_cases h2 : i < 2
    · obtain ⟨r, k1, k2, k3⟩ := up2 hN (M + 6) x i (p.take (p.length - 1)) hx (by omega) (by omega) hs'
      rw [decide_eq_true h2, cond_true, k1, ob_some, specNode' hN _ _ k2 (by rw [bxe]; omega), ob_some, e1, bxe]
      refine ⟨_, rfl, fun h => ?_⟩
      have := k3 (by omega)
      rw [hb0 h] at this
      simp only [upV, decide_eq_true h2, cond_true, knot] at this ⊢
      rw [this, h]
    · obtain ⟨r, k1, k2, k3⟩ := up2 hN (M + 6) x (i - 2) (p.take (p.length - 1)) hx (by omega) (by omega) hs'
      have ew : w64 ((4:Int) - 2) = 2 := by rw [w_small (by omega) (by omega)]; rfl
      have ew2 : w64 (i - 2) = i - 2 := w_small (by omega) (by omega)
      rw [decide_eq_false h2, cond_false, ew, ew2, k1, ob_some, specNode' hN _ _ (by rw [bxe]; omega) k2, ob_some, e1, bxe]
      refine ⟨_, rfl, fun h => ?_⟩
      have := k3 (by omega)
      rw [hb0 h] at this
      simp only [upV, decide_eq_false h2, cond_false, knot] at this ⊢
      rw [this, h]
/-! ### The other way up -/
def nextV (p : prover) : ByteArray × prover := bif (p.proof.length : Int) == 0 then (ByteArray.empty, ⟨p.proof, true, p.steps⟩) else (bx p.proof 0, ⟨p.proof.drop 1, p.bad, p.steps⟩)
theorem nextE (N : Nat) (p : prover) : impl_prover_next_.m N p = some (nextV p) := by
  unfold impl_prover_next_.m nextV
  by_cases h : p.proof.length = 0
  · rw [h]; rfl
  · have e : ((p.proof.length : Int) == 0) = false := by rw [beq_eq_false_iff_ne]; omega
    rw [e, decide_eq_true (show (0:Int) < (p.proof.length : Int) by omega), decide_eq_true (show (1:Int) ≤ (p.proof.length : Int) by omega)]
    rfl
theorem nodeE {N : Nat} (hN : Big N) (p : prover) (a b : ByteArray) (ha : a.size ≤ 64) (hb' : b.size ≤ 64) (hl : p.steps.length ≤ 64) : impl_prover_node.m N p a b = some (ndH a b, ⟨p.proof, p.bad, p.steps ++ [(⟨#[1]⟩ ++ a) ++ b]⟩) := by
  unfold impl_prover_node.m
  simp only [size_append, q1]
  rw [cap63 (by omega), cap63 (by omega), room16 (by simp; omega), cond_true, cond_true, cond_true, implNode' hN _ _ ha hb']
  rfl
theorem next_size (p : prover) (hs : ∀ y ∈ p.proof, y.size = 32) : (nextV p).1.size ≤ 64 := by
  unfold nextV
  by_cases h : p.proof.length = 0
  · rw [h]; exact Nat.zero_le 64
  · have e : ((p.proof.length : Int) == 0) = false := by rw [beq_eq_false_iff_ne]; omega
    rw [e, cond_false, bx, getD_at (show 0 < p.proof.length by omega)]
    have := hs p.proof[0] (List.getElem_mem _)
    show p.proof[0].size ≤ 64
    omega
/-- One knot up: what is taken, what is left. -/
theorem inc2 {M : Nat} (hN : Big (M + 9)) (n : Nat) (p : prover) (x : ByteArray) (i : Int) (hx : x.size = 32) (hi : i = 0 ∨ i = 1) (hs : ∀ y ∈ p.proof, y.size = 32) (hl : p.steps.length ≤ 60) :
    ∃ q, impl_prover_inclusion.mF (M + 9) (n + 2) p x i 2 = some (knot (decide (i < 1)) x (nextV p).1, q) ∧ q.proof = (nextV p).2.proof ∧ q.bad = (nextV p).2.bad ∧ q.steps.length = p.steps.length + 1 := by
  have hst : (nextV p).2.steps = p.steps := by unfold nextV; cases (p.proof.length : Int) == 0 <;> rfl
  show ∃ q, impl_prover_inclusion.mb (M + 9) (impl_prover_inclusion.mF (M + 9) (n + 1)) p x i 2 = some (_, q) ∧ _
  unfold impl_prover_inclusion.mb
  have hn := next_size p hs
  rw [show decide ((2:Int) ≤ 1) = false from rfl, cond_false, split2, ob_some]
  have base : ∀ j, impl_prover_inclusion.mF (M + 9) (n + 1) p x j 1 = some (x, p) := fun j => rfl
  rcases hi with rfl | rfl
  · rw [decide_eq_true (show (0:Int) < 1 by omega), cond_true, base, ob_some, nextE, ob_some, nodeE hN _ _ _ (show x.size ≤ 64 by omega) hn (by rw [hst]; omega), ob_some]
    exact ⟨_, rfl, rfl, rfl, by simp [hst]⟩
  · have ew : w64 ((2:Int) - 1) = 1 := by rw [w_small (by omega) (by omega)]; rfl
    rw [decide_eq_false (show ¬ (1:Int) < 1 by omega), cond_false, ew, base, ob_some, nextE, ob_some, nodeE hN _ _ _ hn (show x.size ≤ 64 by omega) (by rw [hst]; omega), ob_some]
    exact ⟨_, rfl, rfl, rfl, by simp [hst]⟩
theorem knot_size (l : Bool) (a b : ByteArray) : (knot l a b).size = 32 := by cases l <;> exact hb_size _
theorem inc4 {M : Nat} (hN : Big (M + 9)) (n : Nat) (p : prover) (x : ByteArray) (i : Int) (hx : x.size = 32) (hi0 : 0 ≤ i) (hi3 : i ≤ 3) (hs : ∀ y ∈ p.proof, y.size = 32) (hl : p.steps.length ≤ 50) :
    ∃ q1 q, (q1.proof = (nextV p).2.proof ∧ q1.bad = (nextV p).2.bad) ∧ impl_prover_inclusion.mF (M + 9) (n + 3) p x i 4 = some (knot (decide (i < 2)) (knot (decide ((bif decide (i < 2) then i else i - 2) < 1)) x (nextV p).1) (nextV q1).1, q) ∧ q.proof = (nextV q1).2.proof ∧ q.bad = (nextV q1).2.bad := by
  show ∃ q1 q, _ ∧ impl_prover_inclusion.mb (M + 9) (impl_prover_inclusion.mF (M + 9) (n + 2)) p x i 4 = some (_, q) ∧ _
  unfold impl_prover_inclusion.mb
  rw [show decide ((4:Int) ≤ 1) = false from rfl, cond_false, split4, ob_some]
  have sub : ∀ y ∈ (nextV p).2.proof, y.size = 32 := by
    unfold nextV
    cases (p.proof.length : Int) == 0 with
    | true => exact hs
    | false => exact fun y hy => hs y (List.mem_of_mem_drop hy)
  by_cases h2 : i < 2
  · obtain ⟨q1, k1, k2, k3, k4⟩ := inc2 hN n p x i hx (by omega) hs (by omega)
    have hst : (nextV q1).2.steps = q1.steps := by unfold nextV; cases (q1.proof.length : Int) == 0 <;> rfl
    rw [decide_eq_true h2, cond_true, k1, ob_some, nextE, ob_some, nodeE hN _ _ _ (by rw [knot_size]; omega) (next_size q1 (by rw [k2]; exact sub)) (by rw [hst]; omega), ob_some]
    exact ⟨q1, _, ⟨k2, k3⟩, rfl, rfl, rfl⟩
  · obtain ⟨q1, k1, k2, k3, k4⟩ := inc2 hN n p x (i - 2) hx (by omega) hs (by omega)
    have hst : (nextV q1).2.steps = q1.steps := by unfold nextV; cases (q1.proof.length : Int) == 0 <;> rfl
    have ew : w64 ((4:Int) - 2) = 2 := by rw [w_small (by omega) (by omega)]; rfl
    have ew2 : w64 (i - 2) = i - 2 := w_small (by omega) (by omega)
    rw [decide_eq_false h2, cond_false, ew, ew2, k1, ob_some, nextE, ob_some, nodeE hN _ _ _ (next_size q1 (by rw [k2]; exact sub)) (by rw [knot_size]; omega) (by rw [hst]; omega), ob_some]
    exact ⟨q1, _, ⟨k2, k3⟩, rfl, rfl, rfl⟩
theorem incRoot {N : Nat} (hN : Big N) (x : ByteArray) (i : Int) (p : List ByteArray) (hx : x.size = 32) (hi0 : 0 ≤ i) (hi3 : i ≤ 3) (hp : p.length ≤ 64) (hs : ∀ y ∈ p, y.size = 32) :
    ∃ r, impl_inclusionRoot.m N x i 4 p = some r ∧ (r.2.2 == 0) = decide (p.length = 2) ∧ (p.length = 2 → r.1 = upV x i p) := by
  obtain ⟨M, rfl⟩ : ∃ M, N = M + 9 := ⟨N - 9, by omega⟩
  unfold impl_inclusionRoot.m
  have e1 : inB 4 1 64 = true := by decide
  have ew : w64 ((4:Int) - 1) = 3 := by rw [w_small (by omega) (by omega)]; rfl
  have e2 : inB i 0 3 = true := inB_iff.2 ⟨hi0, hi3⟩
  rw [within, e1, ob_some, ew, within, e2, ob_some]
  simp only [Bool.not_true, cond_false]
  obtain ⟨q1, q, ⟨a1, a2⟩, k1, k2, k3⟩ := inc4 hN (M + 6) ⟨p, false, []⟩ x i hx hi0 hi3 hs (by simp)
  rw [show impl_prover_inclusion.m (M + 9) ⟨p, false, []⟩ x i 4 = _ from k1, ob_some]
  simp only [k2, k3]
  obtain ⟨qp, qb, qs⟩ := q1
  simp only at a1 a2
  subst a1 a2
  match p, hp, hs with
  | [], _, _ => exact ⟨_, rfl, rfl, fun h => by simp at h⟩
  | [a], _, _ => exact ⟨_, rfl, rfl, fun h => by simp at h⟩
  | [a, b], _, _ => exact ⟨_, rfl, rfl, fun _ => rfl⟩
  | a :: b :: c :: r, _, _ =>
    have e : decide (((c :: r).length : Int) > 0) = true := decide_eq_true (by rw [List.length_cons]; omega)
    have f1 : nextV ⟨a :: b :: c :: r, false, []⟩ = (a, ⟨b :: c :: r, false, []⟩) := by
      unfold nextV
      have : (((a :: b :: c :: r).length : Int) == 0) = false := by rw [beq_eq_false_iff_ne]; simp only [List.length_cons]; omega
      simp only [this, cond_false]
      rfl
    have f2 : ∀ s, nextV ⟨b :: c :: r, false, s⟩ = (b, ⟨c :: r, false, s⟩) := by
      intro s
      unfold nextV
      have : (((b :: c :: r).length : Int) == 0) = false := by rw [beq_eq_false_iff_ne]; simp only [List.length_cons]; omega
      simp only [this, cond_false]
      rfl
    simp only [f1, f2, cond_false, e, cond_true]
    exact ⟨_, rfl, by rw [decide_eq_false (by simp only [List.length_cons]; omega)]; rfl, fun h => by simp only [List.length_cons] at h; omega⟩
end Mir.Y
