/- Pure laws: FnChains. -/
import Derived.Test.YtohcahijaoemjaaFS13
namespace Mir.Y
set_option linter.unusedVariables false
set_option linter.unusedSimpArgs false
open Go
def sm (a : List Int) (i : Nat) : Int := sumS a (min i 16)
inductive RepC (a b : List Int) : laws_FnChains.A12 → Int → Bool → Bool → Nat → Prop
  | r0 (s : Int) (i : Nat) : RepC a b (.s0 s (i : Int) a b) s false false i
  | r1 (s : Int) (u d : Bool) (i : Nat) : RepC a b (.s1 s u d (i : Int) a b) s u d i
  | r2 (s : Int) (i : Nat) : RepC a b (.s2 s (i : Int) a b) s true true i
  | r3 (s : Int) (d : Bool) (i : Nat) : RepC a b (.s3 s d (i : Int) a b) s true d i
  | r4 (s : Int) (u : Bool) (i : Nat) : RepC a b (.s4 s u (i : Int) a b) s u true i
theorem RepC.cast {a b : List Int} {x : laws_FnChains.A12} {s s' : Int} {u u' d d' : Bool} {i : Nat} (h : RepC a b x s u d i) (hs : s = s') (hu : u = u') (hd : d = d') : RepC a b x s' u' d' i := by subst hs hu hd; exact h
theorem stepC (N : Nat) (a0 a1 a b : List Int) (ha : a.length = 18) (hb' : b.length = 18) (hr : ∀ j, 0 ≤ a.getD j 0 ∧ a.getD j 0 ≤ 15) {x : laws_FnChains.A12} {s : Int} {u d : Bool} {i : Nat} (h : RepC a b x s u d i) (hi : i < 18) (hs0 : 0 ≤ s) (hs1 : s ≤ 240) :
    ∃ x', (∀ rec, laws_FnChains.step12 N a0 a1 rec x = rec x') ∧ RepC a b x' (if i < 16 then s + (15 - a.getD i 0) else s) (u || decide (a.getD i 0 > b.getD i 0)) (d || decide (a.getD i 0 < b.getD i 0)) (i + 1) := by
  obtain ⟨r0, r1⟩ := hr i
  have e1 : w64 ((15:Int) - a.getD i 0) = 15 - a.getD i 0 := w_small (by omega) (by omega)
  have e2 : w64 (s + (15 - a.getD i 0)) = s + (15 - a.getD i 0) := w_small (by omega) (by omega)
  have e3 : w64 ((i : Int) + 1) = ((i + 1 : Nat) : Int) := w_up i 18 hi (by omega)
  have e4 : decide ((i : Int) < 18) = true := decide_eq_true (by omega)
  have e5 : decide ((i : Int) < (a.length : Int)) = true := decide_eq_true (by omega)
  have e6 : decide ((i : Int) < (b.length : Int)) = true := decide_eq_true (by omega)
  by_cases hc : i < 16
  · have e7 : decide ((i : Int) < 16) = true := decide_eq_true (by omega)
    rw [if_pos hc]
    cases h with
    | r0 => exact ⟨_, fun rec => by simp only [laws_FnChains.step12, e1, e2, e3, e4, e5, e6, e7, nn_dec, cond_true, cond_false, Int.toNat_natCast], (RepC.r1 _ (decide (a.getD i 0 > b.getD i 0)) (decide (a.getD i 0 < b.getD i 0)) (i + 1)).cast rfl rfl rfl⟩
    | r1 =>
      cases u with
      | true =>
        cases d with
        | true => exact ⟨_, fun rec => by simp only [laws_FnChains.step12, e1, e2, e3, e4, e5, e6, e7, nn_dec, cond_true, cond_false, Int.toNat_natCast], (RepC.r2 _ (i + 1)).cast rfl rfl rfl⟩
        | false => exact ⟨_, fun rec => by simp only [laws_FnChains.step12, e1, e2, e3, e4, e5, e6, e7, nn_dec, cond_true, cond_false, Int.toNat_natCast], (RepC.r3 _ (decide (a.getD i 0 < b.getD i 0)) (i + 1)).cast rfl rfl rfl⟩
      | false =>
        cases d with
        | true => exact ⟨_, fun rec => by simp only [laws_FnChains.step12, e1, e2, e3, e4, e5, e6, e7, nn_dec, cond_true, cond_false, Int.toNat_natCast], (RepC.r4 _ (decide (a.getD i 0 > b.getD i 0)) (i + 1)).cast rfl rfl rfl⟩
        | false => exact ⟨_, fun rec => by simp only [laws_FnChains.step12, e1, e2, e3, e4, e5, e6, e7, nn_dec, cond_true, cond_false, Int.toNat_natCast], (RepC.r1 _ (decide (a.getD i 0 > b.getD i 0)) (decide (a.getD i 0 < b.getD i 0)) (i + 1)).cast rfl rfl rfl⟩
    | r2 => exact ⟨_, fun rec => by simp only [laws_FnChains.step12, e1, e2, e3, e4, e5, e6, e7, nn_dec, cond_true, cond_false, Int.toNat_natCast], (RepC.r2 _ (i + 1)).cast rfl rfl rfl⟩
    | r3 =>
      cases d with
      | true => exact ⟨_, fun rec => by simp only [laws_FnChains.step12, e1, e2, e3, e4, e5, e6, e7, nn_dec, cond_true, cond_false, Int.toNat_natCast], (RepC.r2 _ (i + 1)).cast rfl rfl rfl⟩
      | false => exact ⟨_, fun rec => by simp only [laws_FnChains.step12, e1, e2, e3, e4, e5, e6, e7, nn_dec, cond_true, cond_false, Int.toNat_natCast], (RepC.r3 _ (decide (a.getD i 0 < b.getD i 0)) (i + 1)).cast rfl rfl rfl⟩
    | r4 =>
      cases u with
      | true => exact ⟨_, fun rec => by simp only [laws_FnChains.step12, e1, e2, e3, e4, e5, e6, e7, nn_dec, cond_true, cond_false, Int.toNat_natCast], (RepC.r2 _ (i + 1)).cast rfl rfl rfl⟩
      | false => exact ⟨_, fun rec => by simp only [laws_FnChains.step12, e1, e2, e3, e4, e5, e6, e7, nn_dec, cond_true, cond_false, Int.toNat_natCast], (RepC.r4 _ (decide (a.getD i 0 > b.getD i 0)) (i + 1)).cast rfl rfl rfl⟩
  · have e7 : decide ((i : Int) < 16) = false := decide_eq_false (by omega)
    rw [if_neg hc]
    cases h with
    | r0 => exact ⟨_, fun rec => by simp only [laws_FnChains.step12, e3, e4, e5, e6, e7, nn_dec, cond_true, cond_false, Int.toNat_natCast], (RepC.r1 _ (decide (a.getD i 0 > b.getD i 0)) (decide (a.getD i 0 < b.getD i 0)) (i + 1)).cast rfl rfl rfl⟩
    | r1 =>
      cases u with
      | true =>
        cases d with
        | true => exact ⟨_, fun rec => by simp only [laws_FnChains.step12, e3, e4, e5, e6, e7, nn_dec, cond_true, cond_false, Int.toNat_natCast], (RepC.r2 _ (i + 1)).cast rfl rfl rfl⟩
        | false => exact ⟨_, fun rec => by simp only [laws_FnChains.step12, e3, e4, e5, e6, e7, nn_dec, cond_true, cond_false, Int.toNat_natCast], (RepC.r3 _ (decide (a.getD i 0 < b.getD i 0)) (i + 1)).cast rfl rfl rfl⟩
      | false =>
        cases d with
        | true => exact ⟨_, fun rec => by simp only [laws_FnChains.step12, e3, e4, e5, e6, e7, nn_dec, cond_true, cond_false, Int.toNat_natCast], (RepC.r4 _ (decide (a.getD i 0 > b.getD i 0)) (i + 1)).cast rfl rfl rfl⟩
        | false => exact ⟨_, fun rec => by simp only [laws_FnChains.step12, e3, e4, e5, e6, e7, nn_dec, cond_true, cond_false, Int.toNat_natCast], (RepC.r1 _ (decide (a.getD i 0 > b.getD i 0)) (decide (a.getD i 0 < b.getD i 0)) (i + 1)).cast rfl rfl rfl⟩
    | r2 => exact ⟨_, fun rec => by simp only [laws_FnChains.step12, e3, e4, e5, e6, e7, nn_dec, cond_true, cond_false, Int.toNat_natCast], (RepC.r2 _ (i + 1)).cast rfl rfl rfl⟩
    | r3 =>
      cases d with
      | true => exact ⟨_, fun rec => by simp only [laws_FnChains.step12, e3, e4, e5, e6, e7, nn_dec, cond_true, cond_false, Int.toNat_natCast], (RepC.r2 _ (i + 1)).cast rfl rfl rfl⟩
      | false => exact ⟨_, fun rec => by simp only [laws_FnChains.step12, e3, e4, e5, e6, e7, nn_dec, cond_true, cond_false, Int.toNat_natCast], (RepC.r3 _ (decide (a.getD i 0 < b.getD i 0)) (i + 1)).cast rfl rfl rfl⟩
    | r4 =>
      cases u with
      | true => exact ⟨_, fun rec => by simp only [laws_FnChains.step12, e3, e4, e5, e6, e7, nn_dec, cond_true, cond_false, Int.toNat_natCast], (RepC.r2 _ (i + 1)).cast rfl rfl rfl⟩
      | false => exact ⟨_, fun rec => by simp only [laws_FnChains.step12, e3, e4, e5, e6, e7, nn_dec, cond_true, cond_false, Int.toNat_natCast], (RepC.r4 _ (decide (a.getD i 0 > b.getD i 0)) (i + 1)).cast rfl rfl rfl⟩
theorem sm_next (a : List Int) (i : Nat) : (if i < 16 then sm a i + (15 - a.getD i 0) else sm a i) = sm a (i + 1) := by
  unfold sm
  by_cases h : i < 16
  · rw [if_pos h, Nat.min_eq_left (by omega), Nat.min_eq_left (by omega)]; rfl
  · rw [if_neg h, Nat.min_eq_right (by omega), Nat.min_eq_right (by omega)]
theorem loopC (N : Nat) (a0 a1 a b : List Int) (ha : a.length = 18) (hb' : b.length = 18) (hr : ∀ j, 0 ≤ a.getD j 0 ∧ a.getD j 0 ≤ 15) {r : Option Bool} (hend : ∀ x, RepC a b x (sm a 18) (upB a b 18) (upB b a 18) 18 → ∀ rec, laws_FnChains.step12 N a0 a1 rec x = r) :
    ∀ (k i M : Nat) (x : laws_FnChains.A12), i + k = 18 → k < M → RepC a b x (sm a i) (upB a b i) (upB b a i) i → miter (fun rec => laws_FnChains.step12 N a0 a1 rec) M x = r := by
  intro k
  induction k with
  | zero =>
    intro i M x hi hM hx
    obtain rfl : i = 18 := by omega
    obtain ⟨M, rfl⟩ : ∃ K, M = K + 1 := ⟨M - 1, by omega⟩
    exact hend x hx _
  | succ k ih =>
    intro i M x hi hM hx
    obtain ⟨M, rfl⟩ : ∃ K, M = K + 1 := ⟨M - 1, by omega⟩
    obtain ⟨s0, s1⟩ := sumS_le a hr (min i 16)
    have hm : min i 16 ≤ 16 := Nat.min_le_right ..
    obtain ⟨x', h1, h2⟩ := stepC N a0 a1 a b ha hb' hr hx (by omega) s0 (by unfold sm; omega)
    refine (h1 _).trans (ih (i + 1) M x' (by omega) (by omega) ?_)
    exact h2.cast (sm_next a i) rfl rfl
theorem pureChains (a0 a1 : List Int) (h0 : ∃ n, WfE E (WfA E n) (.slice 5 (.int .u8)) a0) (h1 : ∃ n, WfE E (WfA E n) (.slice 5 (.int .u8)) a1) : ∃ N, laws_FnChains.m N a0 a1 = some true := by
  refine ⟨16777216, ?_⟩
  generalize hN' : 16777216 = N
  have hN : Big N := by omega
  unfold laws_FnChains.m
  by_cases c0 : (a0.length : Int) > 1048576
  · rw [decide_eq_true c0]; rfl
  by_cases c1 : (a1.length : Int) > 1048576
  · rw [decide_eq_false c0, decide_eq_true c1]; rfl
  rw [decide_eq_false c0, decide_eq_false c1]
  obtain ⟨y, e1, hy⟩ := bytesOfS hN a0 (by omega) (wfBytes h0)
  obtain ⟨m, e2, hm⟩ := messageOf N a1 (by omega) (wfBytes h1)
  obtain ⟨d, e3, hd⟩ := hashOf hN a0 (by omega) (wfBytes h0)
  have hys : (strOf y).size ≤ 20 := by rw [strOf_size]; exact hy
  have digOK : ∀ q : ByteArray, q.size ≤ 20 → digR q = (digB q, 0) := fun q hq => by
    unfold digR
    rw [decide_eq_false (show ¬ (q.size : Int) > 65536 by omega)]; rfl
  have d1 := implDigR hN (strOf y) (by omega)
  have d2 := specDigR hN (strOf y) (by omega)
  have d3 := implDigR hN m (by omega)
  rw [digOK _ hys] at d1 d2
  rw [digOK _ (by omega)] at d3
  have hr := digB_range (strOf y)
  have hla := digB_length (strOf y)
  have hlb := digB_length m
  have hs := dig_sum (strOf y)
  have hud := up_same (strOf y) m
  generalize digB (strOf y) = a at d1 d2 hr hla hs hud
  generalize digB m = b at d3 hlb hud
  have hsame : laws_sameInts.m N a a = some true := by
    unfold laws_sameInts.m laws_sameInts.lp4
    rw [bne_self_eq_false, cond_false]
    exact miter_up (n := a.length) (st := fun i => (i : Int)) (fun i hi rec => by
      simp only [laws_sameInts.step4, lt_dec hi, nn_dec, cond_true, Int.toNat_natCast, bne_self_eq_false, cond_false]
      rw [w_up i _ hi (by omega)]) (fun rec => by simp [laws_sameInts.step4]) a.length 0 N (by omega) (by omega)
  have hl18 : (a.length : Int) = 18 := by omega
  simp only [cond_false, e1, e2, ob_some, d1, d2, d3, bne_self_eq_false, hsame, Bool.not_true, hl18]
  unfold laws_FnChains.lp12
  refine loopC N a0 a1 a b hla hlb hr (fun x hx rec => ?_) 18 0 N _ rfl (by omega) (RepC.r0 0 0)
  -- the rest
  obtain ⟨i, f1, i0, i1⟩ := lawsAt N a1 0 4 (by omega) (wfBytes h1) (by omega) (by omega) (by omega) (by omega)
  obtain ⟨j, f2, j0, j1⟩ := lawsAt N a1 1 18 (by omega) (wfBytes h1) (by omega) (by omega) (by omega) (by omega)
  obtain ⟨n', f3, n0, n1⟩ := lawsAt N a1 2 16 (by omega) (wfBytes h1) (by omega) (by omega) (by omega) (by omega)
  obtain ⟨n, rfl⟩ := Int.eq_ofNat_of_zero_le n0
  have n2 : (n : Int) < 16 := n1
  have w16 : w64 ((16:Int) - (n : Int)) = 16 - (n : Int) := w_small (by omega) (by omega)
  obtain ⟨k', f4, k0, k1⟩ := lawsAt N a1 3 (16 - (n : Int)) (by omega) (wfBytes h1) (by omega) (by omega) (by omega) (by omega)
  obtain ⟨k, rfl⟩ := Int.eq_ofNat_of_zero_le k0
  have k2 : (k : Int) < 16 - (n : Int) := k1
  have i2 : (i : Int) < 4 := i1
  have j2 : (j : Int) < 18 := j1
  have wnk : w64 ((n : Int) + (k : Int)) = ((n + k : Nat) : Int) := by rw [w_small (by omega) (by omega)]; omega
  have p1 := implSecretR hN d i j
  have p1' : secR d i j = (sec d i j, 0) := by
    unfold secR
    rw [decide_eq_false (show ¬ (d.size : Int) > 65536 by omega), hd, inB_iff.2 ⟨i0, Int.lt_add_one_iff.1 i2⟩, inB_iff.2 ⟨j0, Int.lt_add_one_iff.1 j2⟩]; rfl
  rw [p1'] at p1
  have chOK : ∀ (q : ByteArray) (x y : Nat), q.size = 32 → x + y ≤ 15 → impl_Chain.m N q (x : Int) (y : Int) = some (chn q x y, 0) := fun q x y hq hxy => by
    rw [implChainR hN]
    unfold chR
    have w15 : w64 (15 - (x : Int)) = 15 - (x : Int) := w_small (by omega) (by omega)
    rw [decide_eq_false (show ¬ (q.size : Int) > 65536 by omega), hq, w15, inB_iff.2 (⟨by omega, by omega⟩ : (0:Int) ≤ (x : Int) ∧ (x : Int) ≤ 15), inB_iff.2 (⟨by omega, by omega⟩ : (0:Int) ≤ (y : Int) ∧ (y : Int) ≤ 15 - (x : Int))]
    rfl
  have hsz : (sec d i j).size = 32 := hb_size _
  have p2 := chOK (sec d i j) 0 n hsz (by omega)
  have p3 := chOK (chn (sec d i j) 0 n) n k (chn_size hsz _ _) (by omega)
  have p4 := chOK (sec d i j) 0 (n + k) hsz (by omega)
  rw [chn_add] at p3
  have p5 := implLeafR hN d 1
  have p6 := specLeafR hN d 1
  have p7 : leafR d 1 = (leafK d 1, 0) := by
    unfold leafR
    rw [decide_eq_false (show ¬ (d.size : Int) > 65536 by omega), hd]; rfl
  rw [p7] at p5 p6
  have z0 : ((0 : Nat) : Int) = 0 := rfl
  rw [z0] at p2 p4
  have t1 : decide (((18 : Nat) : Int) < 18) = false := by decide
  have t2 : decide ((16 : Int) < (a.length : Int)) = true := decide_eq_true (by omega)
  have t3 : decide ((17 : Int) < (a.length : Int)) = true := decide_eq_true (by omega)
  have g16 := hr 16
  have g17 := hr 17
  have t4 : w64 ((16:Int) * a.getD 16 0) = 16 * a.getD 16 0 := w_small (by omega) (by omega)
  have t5 : w64 (16 * a.getD 16 0 + a.getD 17 0) = sm a 18 := by
    rw [w_small (by omega) (by omega)]; exact hs.symm
  have t6 : decide ((0:Int) ≤ 16) = true := by decide
  have t7 : decide ((0:Int) ≤ 17) = true := by decide
  rw [hud] at hx
  generalize upB b a 18 = u at hx
  generalize sm a 18 = s at hx t5
  generalize hk : (18 : Nat) = c at hx
  subst hk
  cases hx <;> simp only [laws_FnChains.step12, t1, t2, t3, t4, t5, t6, t7, cond_true, cond_false, bne_self_eq_false, beq_self_eq_true, Bool.not_true, e3, ob_some, f1, f2, f3, w16, f4, p1, p2, p3, wnk, p4, p5, p6, seq_self]
end Mir.Y
