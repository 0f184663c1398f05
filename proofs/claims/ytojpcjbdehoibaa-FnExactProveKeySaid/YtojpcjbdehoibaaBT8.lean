/- Pure laws: proofs of keys; ProveKey. -/
import Derived.Test.YtojpcjbdehoibaaBTA
namespace Mir.Y
set_option linter.unusedVariables false
set_option linter.unusedSimpArgs false
open Go
/-! ### How many there are -/
def tl : Nat → List Branch → Nat
  | 0, l => l.length
  | n + 1, l => l.length + (l.map fun x => tl n x.Kids).sum
theorem loop_sz2 {X : Type} {step : (Int × Int → Option Int) → Int × Int → Option Int} {a : List X} {w : X → Nat} {c : Int}
    (hstep : ∀ (i : Nat) (hi : i < a.length) (v : Int), 0 ≤ v → v ≤ c → ∃ y, y ≤ v ∧ (0 ≤ y → y + w a[i] ≤ v) ∧ ∀ rec, step rec (v, (i : Int)) = bif decide (y < 0) then some (-1) else rec (y, ((i + 1 : Nat) : Int)))
    (hend : ∀ v rec, step rec (v, (a.length : Int)) = some v) : ∀ (k i N : Nat) (v : Int), i + k = a.length → k < N → 0 ≤ v → v ≤ c → ∃ y, miter step N (v, (i : Int)) = some y ∧ y ≤ v ∧ (0 ≤ y → y + ((a.drop i).map w).sum ≤ v)
  | 0, i, N + 1, v, h, _, _, _ => by
    obtain rfl : i = a.length := by omega
    exact ⟨v, hend v _, Int.le_refl _, fun _ => by simp⟩
  | k + 1, i, N + 1, v, h, hN, h0, hc => by
    obtain ⟨y, h1, h2, h3⟩ := hstep i (by omega) v h0 hc
    show ∃ z, step (miter step N) (v, (i : Int)) = some z ∧ _
    rw [h3]
    by_cases hy : y < 0
    · rw [decide_eq_true hy]; exact ⟨-1, rfl, by omega, fun h => by omega⟩
    · rw [decide_eq_false hy, cond_false]
      obtain ⟨z, k1, k2, k3⟩ := loop_sz2 hstep hend k (i + 1) N y (by omega) (by omega) (by omega) (by omega)
      refine ⟨z, k1, by omega, fun hz => ?_⟩
      have h4 := k3 hz
      have h5 := h2 (by omega)
      rw [List.drop_eq_getElem_cons (show i < a.length by omega), List.map_cons, List.sum_cons]
      push_cast
      omega
theorem szBr2 {N : Nat} (hN : Big N) : ∀ (n f : Nat) (b : Branch) (c : Int), n ≤ f → wfB n b → 0 ≤ c → c ≤ 1048576 → ∃ y : Int, laws_szBranch.mF N f b c = some y ∧ y ≤ c ∧ (0 ≤ y → y + tl n b.Kids ≤ c)
  | 0, _, _, _, _, h, _, _ => h.elim
  | n + 1, 0, _, _, h, _, _, _ => by omega
  | n + 1, f + 1, b, c, hf, ⟨w1, w2, w3, w4⟩, h0, hc => by
    show ∃ y : Int, laws_szBranch.mb N (laws_szBranch.mF N f) b c = some y ∧ _
    unfold laws_szBranch.mb
    rw [w_sub h0 hc w1]
    by_cases h1 : c - (b.Key.size : Int) < 0
    · rw [decide_eq_true h1]; exact ⟨-1, rfl, by omega, fun h => by omega⟩
    rw [decide_eq_false h1, cond_false, w_sub (by omega) (by omega) w2]
    by_cases h2 : c - (b.Key.size : Int) - (b.Value.size : Int) < 0
    · rw [decide_eq_true h2]; exact ⟨-1, rfl, by omega, fun h => by omega⟩
    rw [decide_eq_false h2, cond_false]
    unfold laws_szBranchS.m
    rw [w_sub (by omega) (by omega) w3]
    by_cases h3 : c - (b.Key.size : Int) - (b.Value.size : Int) - (b.Kids.length : Int) < 0
    · rw [decide_eq_true h3]; exact ⟨-1, rfl, by omega, fun h => by omega⟩
    rw [decide_eq_false h3, cond_false]
    have hal : b.Kids.length ≤ 1048576 := by omega
    obtain ⟨y, e1, e2, e3⟩ := loop_sz2 (step := fun rec => laws_szBranchS.step5 N (laws_szBranch.mF N f) b.Kids (c - b.Key.size - b.Value.size) rec) (w := fun x : Branch => tl n x.Kids) (c := c - b.Key.size - b.Value.size - b.Kids.length) (fun i hi v hv hvc => by
      obtain ⟨y, k1, k2, k3⟩ := szBr2 hN n f b.Kids[i] v (by omega) (w4 _ (List.getElem_mem hi)) hv (by omega)
      refine ⟨y, k2, k3, fun rec => ?_⟩
      simp only [laws_szBranchS.step5, lt_dec hi, nn_dec, cond_true, Int.toNat_natCast, getD_at hi, brEta, k1, ob_some]
      rw [w_up i _ hi hal]) (fun v rec => by simp [laws_szBranchS.step5]) b.Kids.length 0 N (c - b.Key.size - b.Value.size - b.Kids.length) (by omega) (by omega) (by omega) (by omega)
    have e1 : laws_szBranchS.lp5 N (laws_szBranch.mF N f) b.Kids (c - b.Key.size - b.Value.size) (c - b.Key.size - b.Value.size - b.Kids.length, 0) = some y := e1
    rw [e1, ob_some]
    by_cases h4 : y < 0
    · rw [decide_eq_true h4]; exact ⟨-1, rfl, by omega, fun h => by omega⟩
    rw [decide_eq_false h4, cond_false]
    refine ⟨y, rfl, by omega, fun hy => ?_⟩
    have := e3 hy
    rw [List.drop_zero] at this
    unfold tl
    push_cast
    omega
/-! ### Marks of branches -/
theorem getD_set {α : Type} {l : List α} {i : Nat} (h : i < l.length) (x d : α) : (l.set i x).getD i d = x := by
  rw [List.getD_eq_getElem?_getD, List.getElem?_set_self h]; rfl
theorem markStep {N : Nat} (hN : Big N) (slf : List Branch → Int → Option (Int × List Branch)) (a0 : List Branch) (a1 : Int) (rec : Int × Int × List Branch → Option (Int × List Branch)) (v0 : Int) (h0 : 0 ≤ v0) (h1 : v0 ≤ 8388600) (v2 : List Branch) (i : Nat) (hi : i < v2.length) (hl : v2.length ≤ 1048576) :
    laws_markBranchS.step2 N slf a0 a1 rec (v0, (i : Int), v2) = ob (slf (v2.getD i Branch.dz).Kids (v0 + 3)) fun y6 => rec (y6.1, ((i + 1 : Nat) : Int), v2.set i (Branch.mk (txt N v0) (txt N (v0 + 1)) (v0 + 2) y6.2)) := by
  have e1 : w64 (v0 + 1) = v0 + 1 := w_small (by omega) (by omega)
  have e2 : w64 (v0 + 1 + 1) = v0 + 2 := by rw [w_small (by omega) (by omega)]; omega
  have e3 : w64 (v0 + 2 + 1) = v0 + 3 := by rw [w_small (by omega) (by omega)]; omega
  have et : decide (i < v2.length) = true := decide_eq_true hi
  simp only [laws_markBranchS.step2, lt_dec hi, nn_dec, cond_true, e1, e2, e3, txt_eq hN _ (show v0 ≤ 8388616 by omega), txt_eq hN _ (show v0 + 1 ≤ 8388616 by omega), ob_some, Int.toNat_natCast, List.length_set, getD_set hi, List.set_set, et]
  rw [w_up i _ hi hl]
theorem markBr {N : Nat} (hN : Big N) : ∀ (n f : Nat) (l : List Branch) (c : Int), n < f → (∀ x ∈ l, bok n x) → l.length ≤ 1048576 → 0 ≤ c → c + 3 * tl n l ≤ 8388000 → ∃ (k : Int) (z : List Branch), laws_markBranchS.mF N f l c = some (k, z) ∧ k = c + 3 * tl n l
  | _, 0, _, _, h, _, _, _, _ => by omega
  | n, f + 1, l, c, hf, hb0, hl, h0, hc => by
    show ∃ (k : Int) (z : List Branch), laws_markBranchS.lp2 N (laws_markBranchS.mF N f) l c (c, 0, l) = some (k, z) ∧ _
    unfold laws_markBranchS.lp2
    have go : ∀ (k i K : Nat) (v : Int) (v2 : List Branch), i + k = l.length → k < K → v2.length = l.length → (∀ j, i ≤ j → v2.getD j Branch.dz = l.getD j Branch.dz) → 0 ≤ v → v + 3 * ((l.drop i).length + ((l.drop i).map fun x => tl (n - 1) x.Kids).sum : Nat) ≤ 8388000 → ∃ (z : List Branch), miter (fun rec => laws_markBranchS.step2 N (laws_markBranchS.mF N f) l c rec) K (v, (i : Int), v2) = some (v + 3 * ((l.drop i).length + ((l.drop i).map fun x => tl (n - 1) x.Kids).sum : Nat), z) := by
      intro k
      induction k with
      | zero =>
        intro i K v v2 hi hK h2 _ _ _
        obtain ⟨K, rfl⟩ : ∃ j, K = j + 1 := ⟨K - 1, by omega⟩
        refine ⟨v2, ?_⟩
        rw [miter_s, List.drop_eq_nil_of_le (by omega)]
        simp only [laws_markBranchS.step2]
        rw [decide_eq_false (show ¬ ((i : Int) < (v2.length : Int)) by omega)]
        simp
      | succ k ih =>
        intro i K v v2 hi hK h2 hj hv hb1
        obtain ⟨K, rfl⟩ : ∃ j, K = j + 1 := ⟨K - 1, by omega⟩
        have hil : i < l.length := by omega
        have hx := hb0 _ (List.getElem_mem hil)
        obtain ⟨n, rfl⟩ : ∃ m, n = m + 1 := by
          cases n with
          | zero => exact hx.elim
          | succ m => exact ⟨m, rfl⟩
        rw [List.drop_eq_getElem_cons hil, List.map_cons, List.sum_cons, List.length_cons] at hb1 ⊢
        rw [Nat.add_sub_cancel] at *
        rw [miter_s, markStep hN _ _ _ _ v hv (by omega) v2 i (by omega) (by omega), hj i (Nat.le_refl _), getD_at hil]
        obtain ⟨q, z, m1, m2⟩ := markBr hN n f (l[i]).Kids (v + 3) (by omega) (fun y hy => hx.2.2.2 y hy) hx.2.2.1 (by omega) (by omega)
        rw [m1, ob_some, m2]
        obtain ⟨z', m3⟩ := ih (i + 1) K (v + 3 + 3 * tl n (l[i]).Kids) (v2.set i (Branch.mk (txt N v) (txt N (v + 1)) (v + 2) z)) (by omega) (by omega) (by rw [List.length_set]; exact h2) (fun j hji => by
          rw [← hj j (by omega), List.getD_eq_getElem?_getD, List.getElem?_set_ne (by omega), ← List.getD_eq_getElem?_getD]) (by omega) (by omega)
        refine ⟨z', ?_⟩
        rw [m3]
        congr 2
        omega
    have e : tl n l = l.length + (l.map fun x => tl (n - 1) x.Kids).sum := by
      cases n with
      | zero =>
        have : l = [] := by
          cases l with
          | nil => rfl
          | cons x r => exact (hb0 x List.mem_cons_self).elim
        rw [this]; rfl
      | succ m => rfl
    obtain ⟨z, hz⟩ := go l.length 0 N c l (by omega) (by omega) rfl (fun _ _ => rfl) h0 (by rw [List.drop_zero, ← e]; exact hc)
    rw [List.drop_zero, ← e] at hz
    exact ⟨_, z, hz, rfl⟩
/-! ### Steps -/
theorem eqSt (N : Nat) (x : MapStep) : laws_eqMapStep.m N x x = some true := by simp [laws_eqMapStep.m, seq_self]
theorem eqStS {N : Nat} (hN : Big N) (a : List MapStep) (h : a.length ≤ 1048576) : laws_eqMapStepS.m N a a = some true := by
  unfold laws_eqMapStepS.m laws_eqMapStepS.lp4
  simp only [bne_self_eq_false, cond_false]
  exact miter_up (n := a.length) (st := fun i => (i : Int)) (fun i hi rec => by
    simp only [laws_eqMapStepS.step4, lt_dec hi, nn_dec, cond_true, Int.toNat_natCast, eqSt, ob_some, Bool.not_true, cond_false]
    rw [w_up i _ hi h]) (fun rec => by simp [laws_eqMapStepS.step4]) a.length 0 N (by omega) (by omega)
theorem eqPf {N : Nat} (hN : Big N) (x : MapProof) (h : x.Steps.length ≤ 1048576) : laws_eqMapProof.m N x x = some true := by
  unfold laws_eqMapProof.m
  simp only [seq_self, eqStS hN _ h, ob_some, beq_self_eq_true, Bool.not_true, cond_false]
noncomputable def fSt (N : Nat) (c : Int) (_ : MapStep) : Int × MapStep := (w64 (w64 (c + 1) + 1), ⟨c, txt N (w64 (c + 1))⟩)
theorem fSt_count (N : Nat) (c : Int) (x : MapStep) (h0 : 0 ≤ c) (h1 : c ≤ 8388608) : (fSt N c x).1 = c + 2 := by
  simp only [fSt]
  rw [w_small (x := c + 1) (by omega) (by omega), w_small (by omega) (by omega)]; omega
theorem fSt_txt {c : Int} (h0 : 0 ≤ c) (h1 : c ≤ 8388608) : w64 (c + 1) ≤ 8388616 := by
  rw [w_small (x := c + 1) (by omega) (by omega)]; omega
theorem markStS {N : Nat} (hN : Big N) (a : List MapStep) (c : Int) (h : a.length ≤ 1048576) (h0 : 0 ≤ c) (hb : c + 2 * a.length ≤ 8388608) : laws_markMapStepS.m N a c = some (marks (fSt N) c a) := by
  unfold laws_markMapStepS.m laws_markMapStepS.lp2
  exact loop_mark (f := fSt N) (fun i hi v hv rec => by
    obtain ⟨k0, k1⟩ := count_take (fSt_count N) (by omega) (by omega) h0 hb i
    have hi' : i < v.length := by omega
    simp only [laws_markMapStepS.step2, hv, lt_dec hi, nn_dec, cond_true, Int.toNat_natCast, List.length_set, txt_eq hN _ (fSt_txt k0 k1), ob_some, List.set_set, getD_set hi']
    rw [w_up i _ hi h]; rfl) (fun rec => by simp [laws_markMapStepS.step2, marks_length]) (by omega)
theorem heldStS {N : Nat} (hN : Big N) (a : List MapStep) (c : Int) (h : a.length ≤ 1048576) (h0 : 0 ≤ c) (hb : c + 2 * a.length ≤ 8388608) : laws_heldMapStepS.m N (marks (fSt N) c a).2 c = some (marks (fSt N) c a).1 := by
  unfold laws_heldMapStepS.m laws_heldMapStepS.lp2
  refine loop_held (f := fSt N) (a := a) (fun i hi rec hg => ?_) (fun rec => by simp [laws_heldMapStepS.step2, marks_length]) (by omega)
  obtain ⟨k0, k1⟩ := count_take (fSt_count N) (by omega) (by omega) h0 hb i
  have hl : (marks (fSt N) c a).2.length = a.length := marks_length
  simp only [laws_heldMapStepS.step2, hl, lt_dec hi, nn_dec, cond_true, Int.toNat_natCast, List.getD_eq_getElem?_getD, hg, Option.getD_some]
  simp only [fSt, bne_self_eq_false, cond_false, txt_eq hN _ (fSt_txt k0 k1), ob_some, seq_self, Bool.not_true]
  rw [w_up i _ hi h]
/-! ### The way down -/
theorem room24 {n : Nat} (h : n ≤ 1000) : room n 24 = true := by simp only [room, decide_eq_true_eq]; omega
theorem proveC {N : Nat} (hN : Big N) (a0 : Branch) (a1 h e1 e2 e3 e4 : ByteArray) (hh : h.size = 32) : ∀ (n K : Nat) (x : Branch) (P : List Int) (acc : List MapStep), n < K → n ≤ N → C n x P → acc.length ≤ P.length → P.length ≤ 256 → ∃ pf : MapProof, miter (fun rec => spec_l07Prove.step5 N a0 a1 rec) K (h, x.Key, x.Value, x.At, x.Kids, e1, e2, e3, e4, acc) = some pf ∧ miter (fun rec => impl_ProveKey.step7 N a0 a1 rec) K (.s1 h x.Key x.Value x.At x.Kids e1 e2 e3 e4 acc) = some (pf, 0) ∧ pf.Steps.length ≤ 256
  | 0, _, _, _, _, _, _, h, _, _ => h.elim
  | n + 1, 0, _, _, _, h, _, _, _, _ => by omega
  | n + 1, K + 1, x, P, acc, hK, hn, .inl ⟨h1, h2, h3, h4, _⟩, hl, hP => by
    refine ⟨MapProof.mk (seq x.Key a1) x.Key x.Value acc, ?_, ?_, by show acc.length ≤ 256; omega⟩
    · rw [miter_s]
      simp only [spec_l07Prove.step5, spec_l07Leaf.m, ob_some, h1, List.length_nil]
      rfl
    · rw [miter_s]
      simp only [impl_ProveKey.step7, h4]
      rfl
  | n + 1, K + 1, x, P, acc, hK, hn, .inr ⟨y, z, Q, A, h1, h2, h3, h4, h5, h6, h7, _, hy, hz⟩, hl, hP => by
    obtain ⟨r1, s1, t1, u1⟩ := rootsC hN n N y _ (by omega) hy
    obtain ⟨r2, s2, t2, u2⟩ := rootsC hN n N z _ (by omega) hz
    have t1 : spec_l07Root.m N y = some r1 := t1
    have u1 : impl_mapRoot.m N y = some r1 := u1
    have t2 : spec_l07Root.m N z = some r2 := t2
    have u2 : impl_mapRoot.m N z = some r2 := u2
    have bS := specBit N hh (show A < 256 by omega)
    have bI := implBit N hh (show A < 256 by omega)
    have hb2 := bt_lt h A
    have hr : room (acc.length + 1) 24 = true := room24 (by omega)
    have d2 : ∀ v : Int, decide (v < (([y, z] : List Branch).length : Int)) = decide (v < 2) := fun v => rfl
    have ne : ((([y, z] : List Branch).length : Int) == 0) = false := rfl
    have na : ((A : Int) != 256) = true := by rw [bne_iff_ne]; omega
    rcases (show bt h A = 0 ∨ bt h A = 1 by omega) with hb0 | hb0
    · obtain ⟨pf, i1, i2, i3⟩ := proveC hN a0 a1 h e1 e2 e3 e4 hh n K y (Q ++ [48]) (acc ++ [MapStep.mk (A : Int) r2]) (by omega) (by omega) hy (by simp; omega) (by simp; omega)
      refine ⟨pf, ?_, ?_, i3⟩
      · rw [miter_s]
        simp only [spec_l07Prove.step5, spec_l07Leaf.m, ob_some, h1, h4, ne, bS, hb0]
        have g : ([y, z] : List Branch).getD (Int.toNat (w64 ((1:Int) - ((0 : Nat) : Int)))) Branch.dz = z := rfl
        have g' : ([y, z] : List Branch).getD (Int.toNat ((0 : Nat) : Int)) Branch.dz = y := rfl
        rw [g, g', brEta, t2, ob_some, ← i1]
        simp only [List.length_singleton, hr]
        rfl
      · rw [miter_s]
        simp only [impl_ProveKey.step7, ob_some, h1, h4, na, bI, hb0]
        have g : ([y, z] : List Branch).getD (Int.toNat (w64 ((1:Int) - ((0 : Nat) : Int)))) Branch.dz = z := rfl
        have g' : ([y, z] : List Branch).getD (Int.toNat ((0 : Nat) : Int)) Branch.dz = y := rfl
        rw [g, g', brEta, u2, ob_some, ← i2]
        simp only [List.length_singleton, hr]
        rfl
    · obtain ⟨pf, i1, i2, i3⟩ := proveC hN a0 a1 h e1 e2 e3 e4 hh n K z (Q ++ [49]) (acc ++ [MapStep.mk (A : Int) r1]) (by omega) (by omega) hz (by simp; omega) (by simp; omega)
      refine ⟨pf, ?_, ?_, i3⟩
      · rw [miter_s]
        simp only [spec_l07Prove.step5, spec_l07Leaf.m, ob_some, h1, h4, ne, bS, hb0]
        have g : ([y, z] : List Branch).getD (Int.toNat (w64 ((1:Int) - ((1 : Nat) : Int)))) Branch.dz = y := rfl
        have g' : ([y, z] : List Branch).getD (Int.toNat ((1 : Nat) : Int)) Branch.dz = z := rfl
        rw [g, g', brEta, t1, ob_some, ← i1]
        simp only [List.length_singleton, hr]
        rfl
      · rw [miter_s]
        simp only [impl_ProveKey.step7, ob_some, h1, h4, na, bI, hb0]
        have g : ([y, z] : List Branch).getD (Int.toNat (w64 ((1:Int) - ((1 : Nat) : Int)))) Branch.dz = y := rfl
        have g' : ([y, z] : List Branch).getD (Int.toNat ((1 : Nat) : Int)) Branch.dz = z := rfl
        rw [g, g', brEta, u1, ob_some, ← i2]
        simp only [List.length_singleton, hr]
        rfl
theorem isText1 {N : Nat} (hN : Big N) (s : ByteArray) : impl_isText.m N [s] = some (!decide ((s.size : Int) > 65536)) := by
  obtain ⟨M, rfl⟩ : ∃ M, N = M + 9 := ⟨N - 9, by omega⟩
  unfold impl_isText.m slices_ContainsFunc_string_string__impl_isText_1.m slices_IndexFunc_string_string__impl_isText_1.m
  have : slices_IndexFunc_string_string__impl_isText_1.lp2 (M + 9) [s] ((([s] : List ByteArray).length : Int), 0) = bif decide ((s.size : Int) > 65536) then some 0 else some (-1) := by
    unfold slices_IndexFunc_string_string__impl_isText_1.lp2
    kernel_rfl
  rw [this]
  cases decide ((s.size : Int) > 65536) <;> rfl
theorem l02KeyS (N : Nat) (s : ByteArray) : ∃ y, spec_l02Key.m N s = some y ∧ impl_isKey.m N s = some y ∧ (y = true → s.size ≤ 24) := by
  refine ⟨keyB ⟨s, s, 0, []⟩, l02Key N ⟨s, s, 0, []⟩, isKeyI N ⟨s, s, 0, []⟩, fun h => ?_⟩
  exact ((keyB_iff _).1 h).2
theorem proveKey {N : Nat} (hN : Big N) {n : Nat} (hn : n < N) (b : Branch) (hb0 : bok n b) (s : ByteArray) : ∃ r : MapProof × Int, spec_ProveKey.m N b s = some r ∧ impl_ProveKey.m N b s = some r ∧ r.1.Steps.length ≤ 256 := by
  obtain ⟨y, k1, k2, k3⟩ := l02KeyS N s
  unfold spec_ProveKey.m impl_ProveKey.m impl_mapCode.m
  obtain ⟨l, p1, p2, p3⟩ := implPairs0 hN (by omega) b hb0
  simp only [brEta]
  rw [isText1 hN, specMap hN (by omega) b hb0, k1, k2, p1]
  simp only [ob_some, cond_false]
  by_cases h5 : (s.size : Int) > 65536
  · rw [decide_eq_true h5]
    exact ⟨_, rfl, rfl, Nat.zero_le _⟩
  rw [decide_eq_false h5]
  cases hm : mapB n b with
  | false => exact ⟨_, rfl, rfl, Nat.zero_le _⟩
  | true =>
    cases hy : y with
    | false => exact ⟨_, rfl, rfl, Nat.zero_le _⟩
    | true =>
      have hs := k3 hy
      simp only [Bool.not_false, Bool.not_true, cond_false, cond_true, ob_some, bne_self_eq_false]
      unfold spec_l07Prove.m
      simp only [brEta]
      rw [implHash hN _ (by omega), ob_some, isEmptyI, ob_some, l07Empty, ob_some, l07Hash hN _ (by omega), ob_some]
      cases em : emB b with
      | true => exact ⟨_, rfl, rfl, Nat.zero_le _⟩
      | false =>
        obtain ⟨hc, _⟩ := mapB_C hm em
        obtain ⟨pf, i1, i2, i3⟩ := proveC hN b s (hb s) ByteArray.empty ByteArray.empty ByteArray.empty ByteArray.empty (hb_size s) n N b [] [] hn (by omega) hc (Nat.le_refl _) (Nat.zero_le _)
        have i1' : spec_l07Prove.lp5 N b s (hb s, b.Key, b.Value, b.At, b.Kids, ByteArray.empty, ByteArray.empty, ByteArray.empty, ByteArray.empty, []) = some pf := i1
        have i2' : impl_ProveKey.lp7 N b s (.s0 (hb s) ByteArray.empty ByteArray.empty ByteArray.empty ByteArray.empty) = some (pf, 0) := by
          rw [← i2]
          unfold impl_ProveKey.lp7
          obtain ⟨M, hM⟩ : ∃ M, N = M + 1 := ⟨N - 1, by omega⟩
          have un : ∀ (g : (impl_ProveKey.A7 → Option impl_ProveKey.R) → (impl_ProveKey.A7 → Option impl_ProveKey.R)) (s), miter g N s = g (miter g M) s := by rw [hM]; intro g s; rfl
          rw [un, un]
          rfl
        rw [cond_false, cond_false, i1', i2', ob_some]
        exact ⟨_, rfl, rfl, i3⟩
theorem bok_kids {n : Nat} {b : Branch} (h : bok n b) : ∀ x ∈ b.Kids, bok n x := by
  have up : ∀ {n m : Nat} {b : Branch}, n ≤ m → bok n b → bok m b := by
    intro n
    induction n with
    | zero => intro m b _ h; exact h.elim
    | succ n ih =>
      intro m b hm h
      cases m with
      | zero => omega
      | succ m => exact ⟨h.1, h.2.1, h.2.2.1, fun x hx => ih (by omega) (h.2.2.2 x hx)⟩
  cases n with
  | zero => exact h.elim
  | succ n => exact fun x hx => up (by omega) (h.2.2.2 x hx)
theorem tl_up : ∀ {n : Nat} {l : List Branch}, (∀ x ∈ l, bok n x) → tl (n + 1) l = tl n l
  | 0, l, h => by
    have : l = [] := by
      cases l with
      | nil => rfl
      | cons x r => exact (h x List.mem_cons_self).elim
    rw [this]; rfl
  | n + 1, l, h => by
    show l.length + (l.map fun x => tl (n + 1) x.Kids).sum = l.length + (l.map fun x => tl n x.Kids).sum
    congr 2
    refine List.map_congr_left fun x hx => ?_
    exact tl_up fun y hy => (h x hx).2.2.2 y hy
theorem pureProveKey (a0 : Branch) (a1 : ByteArray) (h0 : ∃ n, WfE E (WfA E n) (.st 67) a0) (h1 : ∃ n, WfE E (WfA E n) .str a1) : ∃ N, laws_FnExactProveKey.m N a0 a1 = some true := by
  obtain ⟨n, hw⟩ := h0
  have hw := wfB_of hw
  obtain ⟨N, hN, hn⟩ : ∃ N, Big N ∧ n + 1 < N := ⟨16777216 + n, by omega, by omega⟩
  refine ⟨N, ?_⟩
  unfold laws_FnExactProveKey.m
  by_cases hl : (a1.size : Int) > 1048576
  · rw [decide_eq_true hl]; rfl
  rw [decide_eq_false hl, cond_false]
  obtain ⟨y, e, l, hy⟩ := szBr hN n N a0 1048576 (by omega) hw (by omega) (by omega)
  obtain ⟨y', e', l', hy'⟩ := szBr2 hN n N a0 1048576 (by omega) hw (by omega) (by omega)
  rw [e] at e'
  obtain rfl : y = y' := by simpa using e'
  rw [brEta, show laws_szBranch.m N a0 1048576 = some y from e, ob_some]
  by_cases h : y < 0
  · rw [decide_eq_true h]; rfl
  rw [decide_eq_false h, cond_false]
  have hs := hy (by omega)
  have ht := hy' (by omega)
  have eT : laws_toBranch.m N a0 = some a0 := toBr hN n N a0 (by omega) hs
  have eE : laws_eqBranch.m N a0 a0 = some true := eqBr hN n N a0 (by omega) hs
  obtain ⟨r, p1, p2, p3⟩ := proveKey hN (by omega) a0 hs a1
  obtain ⟨k, z, m1, m2⟩ := markBr hN n N a0.Kids 1 (by omega) (bok_kids hs) (by
    cases n with
    | zero => exact hs.elim
    | succ n => exact hs.2.2.1) (by omega) (by omega)
  have m1 : laws_markBranchS.m N a0.Kids 1 = some (k, z) := m1
  have eM : laws_markBranch.m N a0 1 = some (k, Branch.mk a0.Key a0.Value a0.At z) := by
    unfold laws_markBranch.m
    rw [m1]; rfl
  have eP := eqPf hN r.1 (by omega)
  have eK : laws_markMapProof.m N r.1 1 = some ((marks (fSt N) 1 r.1.Steps).1, MapProof.mk r.1.Found r.1.Key r.1.Value (marks (fSt N) 1 r.1.Steps).2) := by
    unfold laws_markMapProof.m
    rw [markStS hN _ _ (by omega) (by omega) (by omega)]; rfl
  have ck : (marks (fSt N) 1 r.1.Steps).1 = 1 + 2 * r.1.Steps.length := marks_count (fSt_count N) (by omega) (by omega) (by omega) (by omega)
  have eH : laws_heldMapProof.m N (MapProof.mk r.1.Found r.1.Key r.1.Value (marks (fSt N) 1 r.1.Steps).2) 1 = some (marks (fSt N) 1 r.1.Steps).1 := by
    unfold laws_heldMapProof.m
    rw [heldStS hN _ _ (by omega) (by omega) (by omega), ob_some, decide_eq_false (show ¬ (marks (fSt N) 1 r.1.Steps).1 < 0 by omega)]; rfl
  simp only [eT, ob_some, brEta, p1, p2, eP, eE, eM, eK, eH, bne_self_eq_false, Bool.not_true, cond_false, decide_eq_false (show ¬ k < 0 by omega), decide_eq_false (show ¬ (marks (fSt N) 1 r.1.Steps).1 < 0 by omega)]
end Mir.Y
