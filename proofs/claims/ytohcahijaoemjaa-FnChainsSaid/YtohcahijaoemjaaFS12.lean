/- Pure laws: what is signed is accepted. -/
import Derived.Test.YtohcahijaoemjaaFS11
namespace Mir.Y
set_option linter.unusedVariables false
set_option linter.unusedSimpArgs false
open Go
theorem chn_add (s : ByteArray) (a : Nat) : ∀ b, chn (chn s 0 a) a b = chn s 0 (a + b)
  | 0 => rfl
  | b + 1 => by
    show hb ((⟨#[3]⟩ ++ strOf [wu8 ((a + b : Nat) : Int)]) ++ chn (chn s 0 a) a b) = hb ((⟨#[3]⟩ ++ strOf [wu8 ((0 + (a + b) : Nat) : Int)]) ++ chn s 0 (a + b))
    rw [chn_add s a b, Nat.zero_add]
theorem sgL_at (s : ByteArray) (i : Int) (m : ByteArray) {k n : Nat} (h : k < n) : bx (sgL s i m n) k = chn (sec s i (k : Int)) 0 (dgN m k) := by
  rw [bx, getD_at (by rw [sgL_len]; exact h)]
  simp [sgL]
theorem endSg (s : ByteArray) (i : Int) (m : ByteArray) : endL m (sgL s i m 18) 18 = keyE s i 18 := by
  unfold endL keyE
  refine List.map_congr_left fun k hk => ?_
  have hk : k < 18 := by simpa using hk
  have hd := (dgN_eq m k).2
  rw [sgL_at s i m hk, chn_add, show dgN m k + (15 - dgN m k) = 15 by omega]
theorem upSg (s : ByteArray) (i : Int) (h0 : 0 ≤ i) (h3 : i ≤ 3) : upV (leafK s i) i (pathV s i) = rootH s := by
  rcases four h0 h3 with rfl | rfl | rfl | rfl <;> simp [upV, knot, pathV, bx, rootH]
theorem rootSg (s : ByteArray) (i : Int) (m : ByteArray) (h0 : 0 ≤ i) (h3 : i ≤ 3) : sigRoot m (sigV s i m) = rootH s := by
  show upV (hb (catB (endL m (sgL s i m 18) 18))) i (pathV s i) = _
  rw [endSg]
  exact upSg s i h0 h3
theorem hshB_of {l : List ByteArray} (h : ∀ x ∈ l, x.size = 32) : hshB l = true := by
  unfold hshB
  refine allF_iff.2 fun i _ hi => ?_
  have hi : i < l.length := by omega
  have : (bx l i).size = 32 := by rw [bx, getD_at hi]; exact h _ (List.getElem_mem hi)
  rw [this]; rfl
theorem sgL_hsh (s : ByteArray) (i : Int) (m : ByteArray) : hshB (sgL s i m 18) = true := hshB_of (by
  intro x hx
  simp only [sgL, List.mem_map] at hx
  obtain ⟨j, _, rfl⟩ := hx
  exact chn_size (hb_size _) _ _)
theorem path_hsh (s : ByteArray) (i : Int) (h0 : 0 ≤ i) (h3 : i ≤ 3) : hshB (pathV s i) = true := hshB_of (by
  intro x hx
  obtain ⟨a, b, he, ha, hb'⟩ : ∃ a b : ByteArray, pathV s i = [a, b] ∧ a.size = 32 ∧ b.size = 32 := by
    rcases four h0 h3 with rfl | rfl | rfl | rfl
    · exact ⟨_, _, rfl, leafK_size _ _, ndH_size _ _⟩
    · exact ⟨_, _, rfl, leafK_size _ _, ndH_size _ _⟩
    · exact ⟨_, _, rfl, leafK_size _ _, ndH_size _ _⟩
    · exact ⟨_, _, rfl, leafK_size _ _, ndH_size _ _⟩
  rw [he] at hx
  simp only [List.mem_cons, List.not_mem_nil, or_false] at hx
  rcases hx with hx | hx
  · rw [hx]; exact ha
  · rw [hx]; exact hb')
theorem verSg (s : ByteArray) (i : Int) (m : ByteArray) (hm : m.size ≤ 16) (h0 : 0 ≤ i) (h3 : i ≤ 3) : verR (rootH s) m (sigV s i m) = 0 := by
  have hr : (rootH s).size = 32 := ndH_size _ _
  have e1 : ((sigV s i m).Parts.length) = 18 := sgL_len s i m 18
  have e2 : ((sigV s i m).Path.length) = 2 := pathV_len s i
  have e3 : hshB (sigV s i m).Parts = true := sgL_hsh s i m
  have e4 : hshB (sigV s i m).Path = true := path_hsh s i h0 h3
  have e5 : inB (sigV s i m).Index 0 3 = true := inB_iff.2 ⟨h0, h3⟩
  have e6 := rootSg s i m h0 h3
  unfold verR
  rw [e1, e2, e3, e4, e5, e6, hr, decide_eq_false (show ¬ (m.size : Int) > 65536 by omega), seq_self]
  rfl
theorem sameT {N : Nat} (hN : Big N) (l : List ByteArray) (h : l.length ≤ 1048576) : laws_sameTexts.m N l l = some true := by
  unfold laws_sameTexts.m laws_sameTexts.lp4
  rw [bne_self_eq_false, cond_false]
  exact miter_up (n := l.length) (st := fun i => (i : Int)) (fun i hi rec => by
    simp only [laws_sameTexts.step4, lt_dec hi, nn_dec, cond_true, Int.toNat_natCast, seq_self, Bool.not_true, cond_false]
    rw [w_up i _ hi h]) (fun rec => by simp [laws_sameTexts.step4]) l.length 0 N (by omega) (by omega)
theorem pureSigns (a0 a1 : List Int) (h0 : ∃ n, WfE E (WfA E n) (.slice 5 (.int .u8)) a0) (h1 : ∃ n, WfE E (WfA E n) (.slice 5 (.int .u8)) a1) : ∃ N, laws_FnSigns.m N a0 a1 = some true := by
  refine ⟨16777216, ?_⟩
  generalize hN' : 16777216 = N
  have hN : Big N := by omega
  unfold laws_FnSigns.m
  by_cases c0 : (a0.length : Int) > 1048576
  · rw [decide_eq_true c0]; rfl
  by_cases c1 : (a1.length : Int) > 1048576
  · rw [decide_eq_false c0, decide_eq_true c1]; rfl
  rw [decide_eq_false c0, decide_eq_false c1]
  obtain ⟨d, e1, hd⟩ := hashOf hN a0 (by omega) (wfBytes h0)
  obtain ⟨m, e2, hm⟩ := messageOf N a1 (by omega) (wfBytes h1)
  obtain ⟨q, e3, hq⟩ := hashOf hN a1 (by omega) (wfBytes h1)
  obtain ⟨i, e4, i0, i1⟩ := lawsAt N a1 0 4 (by omega) (wfBytes h1) (by omega) (by omega) (by omega) (by omega)
  obtain ⟨k, e5, k0, k1⟩ := lawsAt N a1 1 18 (by omega) (wfBytes h1) (by omega) (by omega) (by omega) (by omega)
  have i2 : (i : Int) < 4 := i1
  have i3 : i ≤ 3 := Int.lt_add_one_iff.1 i2
  have r1 : rootR d = (rootH d, 0) := by
    unfold rootR
    rw [decide_eq_false (show ¬ (d.size : Int) > 65536 by omega), hd]; rfl
  have s1 : swR d i m = (sigV d i m, 0) := by
    unfold swR
    rw [decide_eq_false (show ¬ (d.size : Int) > 65536 by omega), decide_eq_false (show ¬ (m.size : Int) > 65536 by omega), hd, inB_iff.2 ⟨i0, i3⟩]; rfl
  have p1 := implRootR hN d
  have p2 := implSW hN d i m (by omega)
  have p3 := specSW hN d i m (by omega)
  rw [r1] at p1
  rw [s1] at p2 p3
  have g1 : (sigV d i m).Parts.length = 18 := sgL_len d i m 18
  have g2 : (sigV d i m).Path.length = 2 := pathV_len d i
  have q1' : laws_sameSignature.m N (sigV d i m) (sigV d i m) = some true := by
    unfold laws_sameSignature.m
    rw [sameT hN _ (by omega), sameT hN _ (by omega), beq_self_eq_true]; rfl
  have v1 := implVer hN (rootH d) m (sigV d i m) (by omega) (by omega)
  rw [verSg d i m hm i0 i3] at v1
  have v2 := implVer hN (rootH d) (m ++ (⟨#[33]⟩ : ByteArray)) (sigV d i m) (by omega) (by omega)
  have v3 := specVer hN (rootH d) (m ++ (⟨#[33]⟩ : ByteArray)) (sigV d i m) (by omega) (by omega)
  have v4 := implVer hN (rootH d) m (Signature.mk (sigV d i m).Index ((([] : List ByteArray) ++ (sigV d i m).Parts).set (Int.toNat k) q) (sigV d i m).Path) (by rw [List.nil_append, List.length_set]; omega) (by show (sigV d i m).Path.length ≤ _; omega)
  have v5 := specVer hN (rootH d) m (Signature.mk (sigV d i m).Index ((([] : List ByteArray) ++ (sigV d i m).Parts).set (Int.toNat k) q) (sigV d i m).Path) (by rw [List.nil_append, List.length_set]; omega) (by show (sigV d i m).Path.length ≤ _; omega)
  have cp : decide (m.size + (⟨#[33]⟩ : ByteArray).size ≤ 9223372036854775807) = true := decide_eq_true (by
    have : (⟨#[33]⟩ : ByteArray).size = 1 := rfl
    omega)
  have rm : room (([] : List ByteArray).length + (sigV d i m).Parts.length) 16 = true := room16 (by rw [g1]; simp)
  have kk : decide (k < ((([] : List ByteArray) ++ (sigV d i m).Parts).length : Int)) = true := decide_eq_true (by rw [List.nil_append, g1]; omega)
  have kk' : decide (k < ((sigV d i m).Parts.length : Int)) = true := decide_eq_true (by rw [g1]; omega)
  simp only [cond_false, e1, ob_some, e2, e4, p1, p2, p3, bne_self_eq_false, q1', Bool.not_true, v1, cp, cond_true, v2, v3, e5, e3, decide_eq_true k0, kk, kk', rm, v4, v5, beq_self_eq_true]
  cases seq ((sigV d i m).Parts.getD (Int.toNat k) ByteArray.empty) q <;> rfl
end Mir.Y
