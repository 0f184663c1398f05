/- Plain words for pure laws, 3: loops that test, copy, mark. -/
import Derived.Test.YtbepkbaemapkjaaMir31
namespace Mir
set_option linter.unusedVariables false
open Go
/-! ### Both ways -/
theorem amb_right {R : Type} {p : Bool} {x y : Option R} (h : p = true → x = y) : amb p true x y = y := by
  unfold amb
  cases p with
  | false => rfl
  | true => simp [h rfl]
/-! ### Truths one behind the other -/
theorem ifNot {b B : Bool} {e : Option Bool} (h : e = some B) : (bif (!b) then some false else e) = some (b && B) := by cases b <;> simp [h]
theorem ifNo {b B : Bool} {e : Option Bool} (h : e = some B) : (bif b then some false else e) = some (!b && B) := by cases b <;> simp [h]
theorem ifYes {b B : Bool} {e : Option Bool} (h : e = some B) : (bif b then e else some false) = some (b && B) := by cases b <;> simp [h]
/-! ### Loops -/
def allF (p : Nat → Bool) : (i k : Nat) → Bool
  | _, 0 => true
  | i, k + 1 => p i && allF p (i + 1) k
theorem allF_iff {p : Nat → Bool} : ∀ {k i : Nat}, allF p i k = true ↔ ∀ j, i ≤ j → j < i + k → p j = true
  | 0, i => by simp [allF]; omega
  | k + 1, i => by
    simp only [allF, Bool.and_eq_true, allF_iff (k := k)]
    constructor
    · rintro ⟨h1, h2⟩ j hj hk
      rcases Nat.eq_or_lt_of_le hj with rfl | h
      · exact h1
      · exact h2 j h (by omega)
    · intro h
      exact ⟨h i (Nat.le_refl _) (by omega), fun j hj hk => h j (by omega) (by omega)⟩
theorem allF_congr {p q : Nat → Bool} {i k : Nat} (h : ∀ j, i ≤ j → j < i + k → p j = q j) : allF p i k = allF q i k := by
  rw [Bool.eq_iff_iff, allF_iff, allF_iff]
  exact ⟨fun hp j h1 h2 => by rw [← h j h1 h2]; exact hp j h1 h2, fun hp j h1 h2 => by rw [h j h1 h2]; exact hp j h1 h2⟩
/-- A loop that tests each and leaves at the first that fails. -/
theorem loop_all {α R : Type} {step : (α → Option R) → α → Option R} {n : Nat} {st : Nat → α} {p : Nat → Bool} {f t : Option R} (hstep : ∀ i, i < n → ∀ rec, step rec (st i) = bif p i then rec (st (i + 1)) else f) (hend : ∀ rec, step rec (st n) = t) :
    ∀ (k i N : Nat), i + k = n → k < N → miter step N (st i) = bif allF p i k then t else f
  | 0, i, N + 1, h, _ => by obtain rfl : i = n := by omega
                            exact hend _
  | k + 1, i, N + 1, h, hN => by
    show step (miter step N) (st i) = _
    rw [hstep i (by omega), allF]
    cases hp : p i with
    | false => simp
    | true => simp only [cond_true, Bool.true_and]; exact loop_all hstep hend k (i + 1) N (by omega) (by omega)
/-- A loop that looks for the first that passes. -/
theorem loop_idx {α : Type} {step : (α → Option Int) → α → Option Int} {n : Nat} {st : Nat → α} {p : Nat → Bool} (hstep : ∀ i, i < n → ∀ rec, step rec (st i) = bif p i then some (i : Int) else rec (st (i + 1))) (hend : ∀ rec, step rec (st n) = some (-1)) :
    ∀ (k i N : Nat), i + k = n → k < N → ∃ y, miter step N (st i) = some y ∧ decide (y ≥ 0) = !allF (fun j => !p j) i k
  | 0, i, N + 1, h, _ => by obtain rfl : i = n := by omega
                            exact ⟨-1, hend _, rfl⟩
  | k + 1, i, N + 1, h, hN => by
    show ∃ y, step (miter step N) (st i) = some y ∧ _
    rw [hstep i (by omega), allF]
    cases hp : p i with
    | true => exact ⟨(i : Int), by simp, by simp⟩
    | false => simpa using loop_idx hstep hend k (i + 1) N (by omega) (by omega)
/-- A loop that fills a row of its own. -/
theorem loop_fill {X R : Type} {step : (Int × List X → Option R) → Int × List X → Option R} {a : List X} {z : X} {r : Option R} (hstep : ∀ (i : Nat) (hi : i < a.length) (v : List X), v.length = a.length → ∀ rec, step rec ((i : Int), v) = rec (((i + 1 : Nat) : Int), v.set i a[i])) (hend : ∀ rec, step rec ((a.length : Int), a) = r)
    {N : Nat} (hN : a.length < N) : miter step N ((0 : Int), List.replicate a.length z) = r := by
  have := miter_up (step := step) (n := a.length) (st := fun i => ((i : Int), a.take i ++ List.replicate (a.length - i) z)) (r := r) (fun i hi rec => by
    rw [hstep i hi _ (fill_length a z i hi), set_fill a z i hi]) (fun rec => by simpa using hend rec) a.length 0 N (by omega) hN
  simpa using this
/-! ### Marks -/
def marks {X : Type} (f : Int → X → Int × X) : Int → List X → Int × List X
  | c, [] => (c, [])
  | c, x :: r => ((marks f (f c x).1 r).1, (f c x).2 :: (marks f (f c x).1 r).2)
theorem marks_length {X : Type} {f : Int → X → Int × X} : ∀ {c : Int} {a : List X}, (marks f c a).2.length = a.length
  | _, [] => rfl
  | _, _ :: _ => by simp [marks, marks_length]
theorem marks_append {X : Type} {f : Int → X → Int × X} : ∀ {c : Int} {a b : List X}, marks f c (a ++ b) = ((marks f (marks f c a).1 b).1, (marks f c a).2 ++ (marks f (marks f c a).1 b).2)
  | _, [], _ => rfl
  | c, x :: a, b => by simp [marks, marks_append]
theorem marks_snoc {X : Type} {f : Int → X → Int × X} {c : Int} {a : List X} {x : X} : marks f c (a ++ [x]) = ((f (marks f c a).1 x).1, (marks f c a).2 ++ [(f (marks f c a).1 x).2]) := by
  rw [marks_append]; rfl
theorem marks_count {X : Type} {f : Int → X → Int × X} {d : Int} (h : ∀ c x, 0 ≤ c → c ≤ 8388608 → (f c x).1 = c + d) (hd : 0 ≤ d) (hd4 : d ≤ 16) : ∀ {c : Int} {a : List X}, 0 ≤ c → c + d * a.length ≤ 8388608 → (marks f c a).1 = c + d * a.length
  | _, [], _, _ => by simp [marks]
  | c, x :: a, h0, hb => by
    have e : d * ((x :: a).length : Int) = d + d * (a.length : Int) := by
      rw [List.length_cons]; push_cast; rw [Int.mul_add]; omega
    have hm : 0 ≤ d * (a.length : Int) := Int.mul_nonneg hd (by omega)
    rw [e] at hb ⊢
    simp only [marks]
    rw [h c x h0 (by omega), marks_count h hd hd4 (by omega) (by omega)]
    omega
/-- A loop that marks each element in its place. -/
theorem loop_mark {X R : Type} {step : (Int × Int × List X → Option R) → Int × Int × List X → Option R} {f : Int → X → Int × X} {a : List X} {c : Int} {r : Option R} (hstep : ∀ (i : Nat) (hi : i < a.length) (v : List X) (hv : v.length = a.length) (rec), step rec ((marks f c (a.take i)).1, (i : Int), v) = rec ((f (marks f c (a.take i)).1 (v[i]'(by omega))).1, ((i + 1 : Nat) : Int), v.set i (f (marks f c (a.take i)).1 (v[i]'(by omega))).2))
    (hend : ∀ rec, step rec ((marks f c a).1, (a.length : Int), (marks f c a).2) = r) {N : Nat} (hN : a.length < N) : miter step N (c, (0 : Int), a) = r := by
  have := miter_up (step := step) (n := a.length) (st := fun i => ((marks f c (a.take i)).1, (i : Int), (marks f c (a.take i)).2 ++ a.drop i)) (r := r) (fun i hi rec => by
    have hl : ((marks f c (a.take i)).2 ++ a.drop i).length = a.length := by simp [marks_length]; omega
    have hm : (marks f c (a.take i)).2.length = i := by rw [marks_length]; simp; omega
    have hg : ((marks f c (a.take i)).2 ++ a.drop i)[i]'(by omega) = a[i] := by
      rw [List.getElem_append_right (by omega)]; simp [hm]
    rw [hstep i hi _ hl rec, hg]
    congr 1
    have ht : a.take (i + 1) = a.take i ++ [a[i]] := by rw [List.take_add_one, List.getElem?_eq_getElem hi]; rfl
    rw [ht, marks_snoc]
    refine Prod.ext rfl (Prod.ext rfl ?_)
    show ((marks f c (a.take i)).2 ++ a.drop i).set i _ = ((marks f c (a.take i)).2 ++ [_]) ++ a.drop (i + 1)
    rw [List.set_append_right _ _ (by omega), hm, Nat.sub_self, List.drop_eq_getElem_cons hi, List.set_cons_zero]
    simp) (fun rec => by simpa using hend rec) a.length 0 N (by omega) hN
  simpa [marks] using this
/-- A loop that reads marks. -/
theorem loop_held {X R : Type} {step : (Int × Int → Option R) → Int × Int → Option R} {f : Int → X → Int × X} {a : List X} {c : Int} {r : Option R} (hstep : ∀ (i : Nat) (hi : i < a.length) (rec), (marks f c a).2[i]? = some (f (marks f c (a.take i)).1 a[i]).2 → step rec ((marks f c (a.take i)).1, (i : Int)) = rec ((f (marks f c (a.take i)).1 a[i]).1, ((i + 1 : Nat) : Int)))
    (hend : ∀ rec, step rec ((marks f c a).1, (a.length : Int)) = r) {N : Nat} (hN : a.length < N) : miter step N (c, (0 : Int)) = r := by
  have := miter_up (step := step) (n := a.length) (st := fun i => ((marks f c (a.take i)).1, (i : Int))) (r := r) (fun i hi rec => by
    have ht : a.take (i + 1) = a.take i ++ [a[i]] := by rw [List.take_add_one, List.getElem?_eq_getElem hi]; rfl
    have hm : (marks f c (a.take i)).2.length = i := by rw [marks_length]; simp; omega
    rw [hstep i hi rec, ht, marks_snoc]
    have ha : a = a.take i ++ (a[i] :: a.drop (i + 1)) := by rw [← List.drop_eq_getElem_cons hi, List.take_append_drop]
    have : marks f c a = marks f c (a.take i ++ (a[i] :: a.drop (i + 1))) := congrArg _ ha
    rw [this, marks_append]
    show ((marks f c (a.take i)).2 ++ _)[i]? = _
    rw [List.getElem?_append_right (by omega), hm, Nat.sub_self]
    rfl) (fun rec => by simpa using hend rec) a.length 0 N (by omega) hN
  simpa [marks] using this
/-! ### Numbers -/
theorem w_dn (i : Nat) (h0 : 0 < i) (h : i ≤ 1048576) : w64 ((i : Int) - 1) = ((i - 1 : Nat) : Int) := by
  rw [w64_eq (by omega) (by omega)]; omega
theorem w_small {x : Int} (h0 : -1048576 ≤ x) (h1 : x ≤ 16777216) : w64 x = x := w64_eq (by omega) (by omega)
theorem sb_range (s : ByteArray) (i : Int) : 0 ≤ sb s i ∧ sb s i ≤ 255 := by
  unfold sb
  have := (s.data.toList.getD i.toNat 0).toNat_lt
  omega
/-- A loop that counts what is left; below zero it leaves. -/
theorem loop_sz {X : Type} {step : (Int × Int → Option Int) → Int × Int → Option Int} {a : List X} {P : X → Prop} {c : Int}
    (hstep : ∀ (i : Nat) (hi : i < a.length) (v : Int), 0 ≤ v → v ≤ c → ∃ y, y ≤ v ∧ (0 ≤ y → P a[i]) ∧ ∀ rec, step rec (v, (i : Int)) = bif decide (y < 0) then some (-1) else rec (y, ((i + 1 : Nat) : Int)))
    (hend : ∀ v rec, step rec (v, (a.length : Int)) = some v) : ∀ (k i N : Nat) (v : Int), i + k = a.length → k < N → 0 ≤ v → v ≤ c → ∃ y, miter step N (v, (i : Int)) = some y ∧ y ≤ v ∧ (0 ≤ y → ∀ j, i ≤ j → (h : j < a.length) → P a[j])
  | 0, i, N + 1, v, h, _, _, _ => by
    obtain rfl : i = a.length := by omega
    exact ⟨v, hend v _, Int.le_refl _, fun _ j h1 h2 => by omega⟩
  | k + 1, i, N + 1, v, h, hN, h0, hc => by
    obtain ⟨y, h1, h2, h3⟩ := hstep i (by omega) v h0 hc
    show ∃ z, step (miter step N) (v, (i : Int)) = some z ∧ _
    rw [h3]
    by_cases hy : y < 0
    · rw [decide_eq_true hy]; exact ⟨-1, rfl, by omega, fun h => by omega⟩
    · rw [decide_eq_false hy, cond_false]
      obtain ⟨z, k1, k2, k3⟩ := loop_sz hstep hend k (i + 1) N y (by omega) (by omega) (by omega) (by omega)
      refine ⟨z, k1, by omega, fun hz j hj hl => ?_⟩
      rcases Nat.eq_or_lt_of_le hj with rfl | hlt
      · exact h2 (by omega)
      · exact k3 hz j hlt hl
end Mir
