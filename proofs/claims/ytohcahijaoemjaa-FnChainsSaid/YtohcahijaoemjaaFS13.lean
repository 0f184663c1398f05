/- Pure laws: digits and what they lack; chains go on. -/
import Derived.Test.YtohcahijaoemjaaFS12
namespace Mir.Y
set_option linter.unusedVariables false
set_option linter.unusedSimpArgs false
open Go
/-! ### Drawn bytes -/
theorem bytesLoop (N : Nat) (a0 : l00Src) (a1 : Int) : ∀ (n t M : Nat) (s : l00Src) (acc : List Int), SrcOK s t → t + n ≤ 4000000 → acc.length + n ≤ 4096 → n < M → ∃ l q, miter (fun rec => spec_l00Src_bytes.step3 N a0 a1 rec) M ((n : Int), s.code, s.«at», s.seed, acc) = some (l, q) ∧ l.length = acc.length + n := by
  intro n
  induction n with
  | zero =>
    intro t M s acc _ _ _ hM
    obtain ⟨M, rfl⟩ : ∃ K, M = K + 1 := ⟨M - 1, by omega⟩
    exact ⟨acc, l00Src.mk s.code s.«at» s.seed, rfl, rfl⟩
  | succ n ih =>
    intro t M s acc hs ht ha hM
    obtain ⟨M, rfl⟩ : ∃ K, M = K + 1 := ⟨M - 1, by omega⟩
    obtain ⟨b, q, e, _, _, hq⟩ := nextS N hs (by omega) (show (1:Int) < 256 by omega) (by omega)
    obtain ⟨l, r, e2, hl⟩ := ih (t + 1) M q (acc ++ [wu8 b]) hq (by omega) (by simp; omega) (by omega)
    refine ⟨l, r, ?_, by rw [hl]; simp; omega⟩
    show spec_l00Src_bytes.step3 N a0 a1 (miter (fun rec => spec_l00Src_bytes.step3 N a0 a1 rec) M) (((n + 1 : Nat) : Int), s.code, s.«at», s.seed, acc) = _
    have hr : room (acc.length + [wu8 b].length) 1 = true := roomB (by simp; omega) (by omega)
    have hw : w64 (((n + 1 : Nat) : Int) - 1) = (n : Int) := by rw [w_small (by omega) (by omega)]; omega
    have hd : decide (((n + 1 : Nat) : Int) > 0) = true := decide_eq_true (by omega)
    have e' : spec_l00Src_next_.m N (l00Src.mk s.code s.«at» s.seed) 256 = some (b, q) := e
    simp only [spec_l00Src_bytes.step3, hd, cond_true, e', ob_some, hr, hw]
    exact e2
theorem bytesOfS {N : Nat} (hN : Big N) (a : List Int) (hl : a.length ≤ 1048576) (hb' : ∀ x ∈ a, 0 ≤ x ∧ x < 256) : ∃ y, spec_BytesOf.m N a 20 = some y ∧ y.length ≤ 20 := by
  obtain ⟨b, q, e, b0, b1, hq⟩ := nextS N (srcNew hl hb') (by omega) (show (1:Int) < 21 by omega) (by omega)
  obtain ⟨n, rfl⟩ := Int.eq_ofNat_of_zero_le b0
  have hn : n < 21 := by have h : (n : Int) < 21 := b1; omega
  obtain ⟨l, r, e2, h2⟩ := bytesLoop N (l00Src.mk a 0 (Int.tmod (a.length : Int) 1000)) 20 n 1 N q [] hq (by omega) (by simp; omega) (by omega)
  refine ⟨l, ?_, by rw [h2]; simp; omega⟩
  unfold spec_BytesOf.m spec_l00Src_bytes.m
  have hw : w64 ((20:Int) + 1) = 21 := by rw [w_small (by omega) (by omega)]; rfl
  rw [srcS, ob_some, hw, e, ob_some]
  show ob (miter (fun rec => spec_l00Src_bytes.step3 N (l00Src.mk a 0 (Int.tmod (a.length : Int) 1000)) 20 rec) N ((n : Int), q.code, q.«at», q.seed, [])) _ = _
  rw [e2, ob_some]
/-! ### Digits that sum up -/
theorem sumS_congr {l l' : List Int} : ∀ {n : Nat}, (∀ j, j < n → l.getD j 0 = l'.getD j 0) → sumS l n = sumS l' n
  | 0, _ => rfl
  | n + 1, h => by simp only [sumS]; rw [h n (by omega), sumS_congr fun j hj => h j (by omega)]
theorem dig_sum (x : ByteArray) : sumS (digB x) 16 = 16 * (digB x).getD 16 0 + (digB x).getD 17 0 := by
  have hl := dgs_length (hb x) 8
  have h1 : sumS (digB x) 16 = sumI (hb x) 8 := by
    rw [← sum_eq]
    refine sumS_congr fun j hj => ?_
    rw [digB, List.getD_eq_getElem?_getD, List.getElem?_append_left (by omega), ← List.getD_eq_getElem?_getD]
  obtain ⟨s0, s1⟩ := sumI_le (hb x) 8
  have h16 : (digB x).getD 16 0 = w64 (Int.tdiv (sumI (hb x) 8) 16) := by
    rw [digB, List.getD_eq_getElem?_getD, List.getElem?_append_right (by omega), hl]; rfl
  have h17 : (digB x).getD 17 0 = Int.tmod (sumI (hb x) 8) 16 := by
    rw [digB, List.getD_eq_getElem?_getD, List.getElem?_append_right (by omega), hl]; rfl
  rw [h1, h16, h17]
  obtain ⟨n, hn⟩ := Int.eq_ofNat_of_zero_le s0
  have e1 : Int.tdiv (sumI (hb x) 8) 16 = ((n / 16 : Nat) : Int) := by rw [hn]; rfl
  have e2 : Int.tmod (sumI (hb x) 8) 16 = ((n % 16 : Nat) : Int) := by rw [hn]; rfl
  rw [e1, e2, w_small (by omega) (by omega)]
  omega
def upB (a b : List Int) : Nat → Bool
  | 0 => false
  | i + 1 => upB a b i || decide (a.getD i 0 > b.getD i 0)
theorem upB_false {a b : List Int} : ∀ {n : Nat}, upB a b n = false → ∀ j, j < n → a.getD j 0 ≤ b.getD j 0
  | 0, _, j, hj => by omega
  | n + 1, h, j, hj => by
    simp only [upB, Bool.or_eq_false_iff, decide_eq_false_iff_not] at h
    by_cases hc : j < n
    · exact upB_false h.1 j hc
    · obtain rfl : j = n := by omega
      exact Int.not_lt.1 h.2
theorem upB_eq {a b : List Int} : ∀ {n : Nat}, (∀ j, j < n → a.getD j 0 = b.getD j 0) → upB a b n = false
  | 0, _ => rfl
  | n + 1, h => by
    simp only [upB]
    rw [upB_eq fun j hj => h j (by omega), h n (by omega), decide_eq_false (Int.lt_irrefl _)]; rfl
theorem sum_ge {a b : List Int} : ∀ {n : Nat}, (∀ j, j < n → b.getD j 0 ≤ a.getD j 0) → sumS a n ≤ sumS b n ∧ (sumS a n = sumS b n → ∀ j, j < n → a.getD j 0 = b.getD j 0)
  | 0, _ => ⟨Int.le_refl _, fun _ j hj => by omega⟩
  | n + 1, h => by
    obtain ⟨i1, i2⟩ := sum_ge (n := n) fun j hj => h j (by omega)
    have hn := h n (by omega)
    simp only [sumS]
    refine ⟨by omega, fun he j hj => ?_⟩
    by_cases hc : j < n
    · exact i2 (by omega) j hc
    · obtain rfl : j = n := by omega
      omega
theorem up_down (x y : ByteArray) (h : upB (digB y) (digB x) 18 = false) : upB (digB x) (digB y) 18 = false := by
  have hle := upB_false h
  have h1 := dig_sum x
  have h2 := dig_sum y
  obtain ⟨g1, g2⟩ := sum_ge (n := 16) (a := digB x) (b := digB y) fun j hj => hle j (by omega)
  have h16 := hle 16 (by omega)
  have h17 := hle 17 (by omega)
  have he : sumS (digB x) 16 = sumS (digB y) 16 := by omega
  refine upB_eq fun j hj => ?_
  by_cases hc : j < 16
  · exact g2 he j hc
  · by_cases hd : j = 16
    · subst hd; omega
    · obtain rfl : j = 17 := by omega
      omega
theorem up_same (x y : ByteArray) : upB (digB x) (digB y) 18 = upB (digB y) (digB x) 18 := by
  cases h1 : upB (digB x) (digB y) 18 with
  | true =>
    cases h2 : upB (digB y) (digB x) 18 with
    | true => rfl
    | false => rw [up_down x y h2] at h1; cases h1
  | false => rw [up_down y x h1]
end Mir.Y
