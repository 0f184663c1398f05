/- Pure laws: a block of the hash. -/
import Derived.Test.YtohcahijaoemjaaFS1
namespace Mir.Y
set_option linter.unusedVariables false
set_option linter.unusedSimpArgs false
open Go
theorem w4 {i : Nat} (h : i ≤ 262144) : w64 ((4 : Int) * (i : Int)) = ((4 * i : Nat) : Int) := by
  rw [w_small (by omega) (by omega)]; omega
theorem wp1 {n : Nat} (h : n ≤ 1048576) : w64 ((n : Int) + 1) = ((n + 1 : Nat) : Int) := by
  rw [w_small (by omega) (by omega)]; omega
theorem wp2 {n : Nat} (h : n ≤ 1048576) : w64 ((n : Int) + 2) = ((n + 2 : Nat) : Int) := by
  rw [w_small (by omega) (by omega)]; omega
theorem wp3 {n : Nat} (h : n ≤ 1048576) : w64 ((n : Int) + 3) = ((n + 3 : Nat) : Int) := by
  rw [w_small (by omega) (by omega)]; omega
theorem wm {n k : Nat} (hk : k ≤ n) (h : n ≤ 1048576) : w64 ((n : Int) - (k : Int)) = ((n - k : Nat) : Int) := by
  rw [w_small (by omega) (by omega)]; omega
def wd (b : Nat → Int) (i : Nat) : Int := ibit .or .u32 (ibit .or .u32 (ibit .or .u32 (wu32 ((wu32 (b (4 * i))) * 2 ^ (min (Int.toNat (24:Int)) 32))) (wu32 ((wu32 (b (4 * i + 1))) * 2 ^ (min (Int.toNat (16:Int)) 32)))) (wu32 ((wu32 (b (4 * i + 2))) * 2 ^ (min (Int.toNat (8:Int)) 32)))) (wu32 (b (4 * i + 3)))
def we (w : List Int) (i : Nat) : Int := wu32 ((wu32 ((wu32 ((w.getD (i - 16) 0) + (ibit .xor .u32 (ibit .xor .u32 (tn (w.getD (i - 15) 0) 7) (tn (w.getD (i - 15) 0) 18)) (Int.fdiv (w.getD (i - 15) 0) (2 ^ (min (Int.toNat (3:Int)) 32)))))) + (w.getD (i - 7) 0))) + (ibit .xor .u32 (ibit .xor .u32 (tn (w.getD (i - 2) 0) 17) (tn (w.getD (i - 2) 0) 19)) (Int.fdiv (w.getD (i - 2) 0) (2 ^ (min (Int.toNat (10:Int)) 32)))))
def wl (b : Nat → Int) : Nat → List Int
  | 0 => List.replicate 64 0
  | i + 1 => (wl b i).set i (if i < 16 then wd b i else we (wl b i) i)
theorem wl_length (b : Nat → Int) : ∀ i, (wl b i).length = 64
  | 0 => rfl
  | i + 1 => by simp [wl, wl_length b i]
theorem dlt {i n : Nat} (h : i < n) : decide ((i : Int) < (n : Int)) = true := decide_eq_true (by omega)
theorem specW1 {N : Nat} (hN : Big N) (a0 a1 a2 : List Int) (h1 : a1.length = 64) : spec_l01Block.lp2 N a0 a1 a2 (0, List.replicate 64 0) = spec_l01Block.lp6 N a0 a1 a2 (16, wl (fun j => a1.getD j 0) 16) := by
  unfold spec_l01Block.lp2
  exact miter_up (n := 16) (st := fun i => ((i : Int), wl (fun j => a1.getD j 0) i)) (fun i hi rec => by
    have e1 := w4 (i := i) (by omega)
    have e2 := wp1 (n := 4 * i) (by omega)
    have e3 := wp2 (n := 4 * i) (by omega)
    have e4 := wp3 (n := 4 * i) (by omega)
    have e5 := w_up i 16 hi (by omega)
    have hl := wl_length (fun j => a1.getD j 0) i
    simp only [spec_l01Block.step2, e1, e2, e3, e4, e5, h1, hl, nn_dec, Int.toNat_natCast, cond_true, decide_eq_true (show (i : Int) < 16 by omega), decide_eq_true (show ((4 * i : Nat) : Int) < ((64 : Nat) : Int) by omega), decide_eq_true (show ((4 * i + 1 : Nat) : Int) < ((64 : Nat) : Int) by omega), decide_eq_true (show ((4 * i + 2 : Nat) : Int) < ((64 : Nat) : Int) by omega), decide_eq_true (show ((4 * i + 3 : Nat) : Int) < ((64 : Nat) : Int) by omega), decide_eq_true (show (i : Int) < ((64 : Nat) : Int) by omega), wl, if_pos hi]
    rfl) (fun rec => by rfl) 16 0 N (by omega) (by omega)
theorem specW2 {N : Nat} (hN : Big N) (a0 a1 a2 : List Int) (b : Nat → Int) : spec_l01Block.lp6 N a0 a1 a2 (16, wl b 16) = bif room (([] : List Int).length + a0.length) 4 then spec_l01Block.lp13 N a0 a1 a2 (0, wl b 64, [] ++ a0) else none := by
  unfold spec_l01Block.lp6
  exact miter_up (n := 48) (st := fun j => (((j + 16 : Nat) : Int), wl b (j + 16))) (fun j hj rec => by
    obtain ⟨i, hi⟩ : ∃ i, i = j + 16 := ⟨_, rfl⟩
    have hi2 : j + 1 + 16 = i + 1 := by omega
    rw [← hi, hi2]
    have h16 : 16 ≤ i := by omega
    have h64 : i < 64 := by omega
    have hl := wl_length b i
    have e15 : w64 ((i : Int) - 15) = ((i - 15 : Nat) : Int) := wm (k := 15) (by omega) (by omega)
    have e2 : w64 ((i : Int) - 2) = ((i - 2 : Nat) : Int) := wm (k := 2) (by omega) (by omega)
    have e16 : w64 ((i : Int) - 16) = ((i - 16 : Nat) : Int) := wm (k := 16) (by omega) (by omega)
    have e7 : w64 ((i : Int) - 7) = ((i - 7 : Nat) : Int) := wm (k := 7) (by omega) (by omega)
    have e5 := w_up i 64 h64 (by omega)
    simp only [spec_l01Block.step6, e15, e2, e16, e7, e5, hl, nn_dec, Int.toNat_natCast, cond_true, decide_eq_true (show (i : Int) < 64 by omega), decide_eq_true (show ((i - 15 : Nat) : Int) < ((64 : Nat) : Int) by omega), decide_eq_true (show ((i - 2 : Nat) : Int) < ((64 : Nat) : Int) by omega), decide_eq_true (show ((i - 16 : Nat) : Int) < ((64 : Nat) : Int) by omega), decide_eq_true (show ((i - 7 : Nat) : Int) < ((64 : Nat) : Int) by omega), decide_eq_true (show (i : Int) < ((64 : Nat) : Int) by omega), tS7, tS18, tS17, tS19, ob_some]
    have hw : wl b (i + 1) = (wl b i).set i (we (wl b i) i) := by simp only [wl, if_neg (show ¬ i < 16 by omega)]
    rw [hw]
    rfl) (fun rec => by rfl) 48 0 N (by omega) (by omega)
theorem implW {N : Nat} (hN : Big N) (s : ByteArray) (hs : s.size = 64) : impl_wordsOf.m N s = some (wl (fun j => sb s (j : Int)) 64) := by
  unfold impl_wordsOf.m impl_wordsOf.lp3
  exact miter_up (n := 64) (st := fun i => ((i : Int), List.replicate 64 (0:Int), wl (fun j => sb s (j : Int)) i)) (fun i hi rec => by
    have e5 := w_up i 64 hi (by omega)
    by_cases h16 : i < 16
    · have e1 := w4 (i := i) (by omega)
      have e2 := wp1 (n := 4 * i) (by omega)
      have e3 := wp2 (n := 4 * i) (by omega)
      have e4 := wp3 (n := 4 * i) (by omega)
      simp only [impl_wordsOf.step3, e1, e2, e3, e4, e5, hs, nn_dec, Int.toNat_natCast, cond_true, decide_eq_true (show (i : Int) < 64 by omega), decide_eq_true (show (i : Int) < 16 by omega), decide_eq_true (show ((4 * i : Nat) : Int) < ((64 : Nat) : Int) by omega), decide_eq_true (show ((4 * i + 1 : Nat) : Int) < ((64 : Nat) : Int) by omega), decide_eq_true (show ((4 * i + 2 : Nat) : Int) < ((64 : Nat) : Int) by omega), decide_eq_true (show ((4 * i + 3 : Nat) : Int) < ((64 : Nat) : Int) by omega), wl, if_pos h16]
      rfl
    · have e15 : w64 ((i : Int) - 15) = ((i - 15 : Nat) : Int) := wm (k := 15) (by omega) (by omega)
      have e2 : w64 ((i : Int) - 2) = ((i - 2 : Nat) : Int) := wm (k := 2) (by omega) (by omega)
      have e16 : w64 ((i : Int) - 16) = ((i - 16 : Nat) : Int) := wm (k := 16) (by omega) (by omega)
      have e7 : w64 ((i : Int) - 7) = ((i - 7 : Nat) : Int) := wm (k := 7) (by omega) (by omega)
      simp only [impl_wordsOf.step3, e15, e2, e16, e7, e5, nn_dec, Int.toNat_natCast, cond_true, cond_false, decide_eq_true (show (i : Int) < 64 by omega), decide_eq_false (show ¬ (i : Int) < 16 by omega), decide_eq_true (show ((i - 15 : Nat) : Int) < 64 by omega), decide_eq_true (show ((i - 2 : Nat) : Int) < 64 by omega), decide_eq_true (show ((i - 16 : Nat) : Int) < 64 by omega), decide_eq_true (show ((i - 7 : Nat) : Int) < 64 by omega), tI7, tI18, tI17, tI19, ob_some]
      have hw : wl (fun j => sb s (j : Int)) (i + 1) = (wl (fun j => sb s (j : Int)) i).set i (we (wl (fun j => sb s (j : Int)) i) i) := by simp only [wl, if_neg h16]
      rw [hw]
      rfl) (fun rec => by rfl) 64 0 N (by omega) (by omega)
/-! ### Rounds -/
def rp (v : List Int) (k w : Int) : Int := wu32 ((wu32 ((wu32 ((wu32 ((v.getD 7 0) + (ibit .xor .u32 (ibit .xor .u32 (tn (v.getD 4 0) 6) (tn (v.getD 4 0) 11)) (tn (v.getD 4 0) 25)))) + chS (v.getD 4 0) (v.getD 5 0) (v.getD 6 0))) + k)) + w)
def rd (v : List Int) (k w : Int) : List Int := [wu32 (rp v k w + (wu32 ((ibit .xor .u32 (ibit .xor .u32 (tn (v.getD 0 0) 2) (tn (v.getD 0 0) 13)) (tn (v.getD 0 0) 22)) + mjS (v.getD 0 0) (v.getD 1 0) (v.getD 2 0)))), v.getD 0 0, v.getD 1 0, v.getD 2 0, wu32 (v.getD 3 0 + rp v k w), v.getD 4 0, v.getD 5 0, v.getD 6 0]
def vl (h w k : List Int) : Nat → List Int
  | 0 => h
  | i + 1 => rd (vl h w k i) (k.getD i 0) (w.getD i 0)
theorem vl_length {h w k : List Int} (hh : h.length = 8) : ∀ i, (vl h w k i).length = 8
  | 0 => hh
  | _ + 1 => rfl
theorem specR {N : Nat} (hN : Big N) (h a1 k w : List Int) (hh : h.length = 8) (hk : k.length = 64) (hw : w.length = 64) : spec_l01Block.lp13 N h a1 k (0, w, h) = spec_l01Block.lp21 N h a1 k (0, h, vl h w k 64) := by
  unfold spec_l01Block.lp13
  exact miter_up (n := 64) (st := fun i => ((i : Int), w, vl h w k i)) (fun i hi rec => by
    have e5 := w_up i 64 hi (by omega)
    have hl := vl_length (w := w) (k := k) hh i
    simp only [spec_l01Block.step13, e5, hl, hk, hw, nn_dec, Int.toNat_natCast, cond_true, decide_eq_true (show (i : Int) < 64 by omega), decide_eq_true (show (i : Int) < ((64 : Nat) : Int) by omega), tS2, tS6, tS11, tS13, tS22, tS25, ob_some]
    rfl) (fun rec => by rfl) 64 0 N (by omega) (by omega)
theorem implR {N : Nat} (hN : Big N) (h k w r8 : List Int) (s : ByteArray) : impl_blockHash.lp3 N h k s (0, r8, h, w) = impl_blockHash.lp11 N h k s (0, r8, vl h w k 64) := by
  unfold impl_blockHash.lp3
  exact miter_up (n := 64) (st := fun i => ((i : Int), r8, vl h w k i, w)) (fun i hi rec => by
    have e5 := w_up i 64 hi (by omega)
    simp only [impl_blockHash.step3, e5, nn_dec, Int.toNat_natCast, cond_true, decide_eq_true (show (i : Int) < 64 by omega), tI2, tI6, tI11, tI13, tI22, tI25, ob_some]
    show rec (_, r8, [wu32 (wu32 (wu32 (wu32 (wu32 (_ + _) + chI ((vl h w k i).getD 4 0) ((vl h w k i).getD 5 0) ((vl h w k i).getD 6 0)) + _) + _) + wu32 (_ + mjI ((vl h w k i).getD 0 0) ((vl h w k i).getD 1 0) ((vl h w k i).getD 2 0))), _, _, _, wu32 (_ + wu32 (wu32 (wu32 (wu32 (_ + _) + chI ((vl h w k i).getD 4 0) ((vl h w k i).getD 5 0) ((vl h w k i).getD 6 0)) + _) + _)), _, _, _], w) = _
    rw [ch_eq, mj_eq]
    rfl) (fun rec => by rfl) 64 0 N (by omega) (by omega)
def adds (h v : List Int) : List Int := [wu32 (h.getD 0 0 + v.getD 0 0), wu32 (h.getD 1 0 + v.getD 1 0), wu32 (h.getD 2 0 + v.getD 2 0), wu32 (h.getD 3 0 + v.getD 3 0), wu32 (h.getD 4 0 + v.getD 4 0), wu32 (h.getD 5 0 + v.getD 5 0), wu32 (h.getD 6 0 + v.getD 6 0), wu32 (h.getD 7 0 + v.getD 7 0)]
theorem eight {l : List Int} (h : l.length = 8) : ∃ a b c d e f g i, l = [a, b, c, d, e, f, g, i] := by
  match l, h with
  | [a, b, c, d, e, f, g, i], _ => exact ⟨a, b, c, d, e, f, g, i, rfl⟩
theorem specA {N : Nat} (hN : Big N) (h a1 k v : List Int) (hh : h.length = 8) (hv : v.length = 8) : spec_l01Block.lp21 N h a1 k (0, h, v) = some (adds h v) := by
  obtain ⟨M, rfl⟩ : ∃ M, N = M + 9 := ⟨N - 9, by omega⟩
  obtain ⟨a, b, c, d, e, f, g, i, rfl⟩ := eight hh
  obtain ⟨a', b', c', d', e', f', g', i', rfl⟩ := eight hv
  unfold spec_l01Block.lp21
  kernel_rfl
theorem implA {N : Nat} (hN : Big N) (h k v r8 : List Int) (s : ByteArray) (hh : h.length = 8) (hv : v.length = 8) : impl_blockHash.lp11 N h k s (0, r8, v) = some (adds h v) := by
  obtain ⟨M, rfl⟩ : ∃ M, N = M + 9 := ⟨N - 9, by omega⟩
  obtain ⟨a, b, c, d, e, f, g, i, rfl⟩ := eight hh
  obtain ⟨a', b', c', d', e', f', g', i', rfl⟩ := eight hv
  have : impl_blockHash.lp11 (M + 9) [a, b, c, d, e, f, g, i] k s (0, r8, [a', b', c', d', e', f', g', i']) = some [wu32 (a' + a), wu32 (b' + b), wu32 (c' + c), wu32 (d' + d), wu32 (e' + e), wu32 (f' + f), wu32 (g' + g), wu32 (i' + i)] := by
    unfold impl_blockHash.lp11
    kernel_rfl
  rw [this]
  simp only [adds, Int.add_comm a', Int.add_comm b', Int.add_comm c', Int.add_comm d', Int.add_comm e', Int.add_comm f', Int.add_comm g', Int.add_comm i']
  rfl
def blk (h k : List Int) (b : Nat → Int) : List Int := adds h (vl h (wl b 64) k 64)
theorem blk_length (h k : List Int) (b : Nat → Int) : (blk h k b).length = 8 := rfl
theorem specBlk {N : Nat} (hN : Big N) (h a1 k : List Int) (hh : h.length = 8) (h1 : a1.length = 64) (hk : k.length = 64) : spec_l01Block.m N h a1 k = some (blk h k fun j => a1.getD j 0) := by
  unfold spec_l01Block.m
  have e : room 64 4 = true := by decide
  rw [e, specW1 hN h a1 k h1, specW2 hN h a1 k, roomB (by simp [hh]) (by omega), List.nil_append, specR hN h a1 k _ hh hk (wl_length _ _), specA hN h a1 k _ hh (vl_length hh _)]
  rfl
theorem implBlk {N : Nat} (hN : Big N) (h k : List Int) (s : ByteArray) (hh : h.length = 8) (hs : s.size = 64) : impl_blockHash.m N h k s = some (blk h k fun j => sb s (j : Int)) := by
  unfold impl_blockHash.m
  rw [implW hN s hs, ob_some, implR hN, implA hN _ _ _ _ _ hh (vl_length hh _)]
  rfl
end Mir.Y
