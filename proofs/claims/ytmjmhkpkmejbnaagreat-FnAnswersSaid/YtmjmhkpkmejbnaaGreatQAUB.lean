/- Pure laws: maps and keys that are drawn. -/
import Derived.Test.YtmjmhkpkmejbnaaGreatQAUE
namespace Mir.Y
set_option linter.unusedVariables false
set_option linter.unusedSimpArgs false
open Go
set_option linter.unusedSectionVars false
variable [UU]
theorem pickG (N : Nat) {s : l00Src} {t : Nat} (h : SrcOK s t) (ht : t ≤ 4000000) (l : List ByteArray) (h1 : 1 < l.length) (h2 : l.length ≤ 256) : ∃ n q, n < l.length ∧ spec_l00Src_pick_.m N s l = some (l.getD n ByteArray.empty, q) ∧ SrcOK q (t + 1) := by
  obtain ⟨b, q, e, b0, b1, hq⟩ := nextS N h ht (show (1:Int) < (l.length : Int) by omega) (by omega)
  refine ⟨b.toNat, q, by omega, ?_, hq⟩
  have hz : ((l.length : Int) == 0) = false := by rw [beq_eq_false_iff_ne]; omega
  unfold spec_l00Src_pick_.m
  rw [hz, cond_false, e, ob_some, decide_eq_true b0, cond_true, decide_eq_true b1, cond_true]
def nmL : List ByteArray := [(⟨#[97]⟩ : ByteArray), (⟨#[98]⟩ : ByteArray), (⟨#[99]⟩ : ByteArray), (⟨#[100]⟩ : ByteArray), (⟨#[101]⟩ : ByteArray), (⟨#[102]⟩ : ByteArray), (⟨#[97, 108, 112, 104, 97]⟩ : ByteArray), (⟨#[98, 101, 116, 97]⟩ : ByteArray)]
def sfL : List ByteArray := [ByteArray.empty, ByteArray.empty, (⟨#[49]⟩ : ByteArray), (⟨#[50]⟩ : ByteArray)]
theorem nm_mem : ∀ n, n < 8 → ∀ m, m < 4 → nmL.getD n ByteArray.empty ++ sfL.getD m ByteArray.empty ∈ KS := by
  have h : ((List.range 8).all fun n => (List.range 4).all fun m => KS.any fun k => k.data.toList == (nmL.getD n ByteArray.empty ++ sfL.getD m ByteArray.empty).data.toList) = true := by kernel_rfl
  intro n hn m hm
  have h1 := List.all_eq_true.1 h n (List.mem_range.2 hn)
  have h2 := List.all_eq_true.1 h1 m (List.mem_range.2 hm)
  obtain ⟨k, hk, e⟩ := List.any_eq_true.1 h2
  rw [beq_iff_eq] at e
  have : k = nmL.getD n ByteArray.empty ++ sfL.getD m ByteArray.empty := by
    generalize nmL.getD n ByteArray.empty ++ sfL.getD m ByteArray.empty = z at e
    cases k; cases z
    exact congrArg _ (Array.toList_inj.1 e)
  rw [← this]; exact hk
theorem nm_size : ∀ n, n < 8 → ∀ m, m < 4 → (nmL.getD n ByteArray.empty).size + (sfL.getD m ByteArray.empty).size ≤ 100 := by decide
def dtL : List ByteArray := [ByteArray.empty, (⟨#[49]⟩ : ByteArray), (⟨#[50]⟩ : ByteArray), (⟨#[120]⟩ : ByteArray), (⟨#[108, 111, 110, 103, 101, 114, 32, 118, 97, 108, 117, 101]⟩ : ByteArray)]
theorem datumS (N : Nat) {s : l00Src} {t : Nat} (h : SrcOK s t) (ht : t ≤ 3999990) : ∃ d q, d.size ≤ 60 ∧ spec_l00Src_datum.m N s = some (d, q) ∧ SrcOK q (t + 1) := by
  obtain ⟨n, q, n1, n2, n3⟩ := pickG N h (by omega) dtL (by decide) (by decide)
  refine ⟨dtL.getD n ByteArray.empty, q, ?_, ?_, n3⟩
  · have : ∀ n, n < 5 → (dtL.getD n ByteArray.empty).size ≤ 60 := by decide
    exact this n n1
  · show ob (spec_l00Src_pick_.m N s dtL) (fun y2 => some (y2.1, y2.2)) = _
    rw [n2, ob_some]
theorem chanceS (N : Nat) {s : l00Src} {t : Nat} (h : SrcOK s t) (ht : t ≤ 3999990) {n : Int} (h1 : 1 < n) (hn : n ≤ 256) : ∃ c q, spec_l00Src_chance.m N s n = some (c, q) ∧ SrcOK q (t + 1) := by
  obtain ⟨b, q, e, b0, b1, hq⟩ := nextS N h (by omega) h1 hn
  unfold spec_l00Src_chance.m
  rw [e, ob_some]
  exact ⟨_, _, rfl, hq⟩
theorem sizeS (N : Nat) {s : l00Src} {t : Nat} (h : SrcOK s t) {n : Int} (h1 : 1 ≤ n) (hn : n ≤ 1000) : ∃ z : Int, spec_l00Src_size_.m N s n = some z ∧ 1 ≤ z ∧ z ≤ n := by
  unfold spec_l00Src_size_.m
  have hc := h.len
  have e1 : Int.tdiv (s.code.length : Int) 12 = ((s.code.length / 12 : Nat) : Int) := rfl
  have e2 : w64 ((s.code.length / 12 : Nat) : Int) = ((s.code.length / 12 : Nat) : Int) := w_small (by omega) (by omega)
  have e3 : w64 (1 + ((s.code.length / 12 : Nat) : Int)) = 1 + ((s.code.length / 12 : Nat) : Int) := w_small (by omega) (by omega)
  rw [show (!decide ((12:Int) = 0)) = true from rfl, cond_true, e1, e2, e3]
  by_cases hc : n < 1 + ((s.code.length / 12 : Nat) : Int)
  · exact ⟨n, by simp only [if_pos hc], h1, Int.le_refl _⟩
  · exact ⟨1 + ((s.code.length / 12 : Nat) : Int), by simp only [if_neg hc], by omega, by omega⟩
/-- The keys of a row of leaves are among those. -/
def inKS (L : List Branch) : Prop := ∀ l ∈ L, l.Key ∈ KS
theorem inKS.put {L L' : List Branch} {x : Branch} (h : inKS L) (p : PutR L x L') (hx : x.Key ∈ KS) : inKS L' := by
  intro l hl
  rcases p.mem l hl with rfl | hl
  · exact hx
  · exact h l hl
/-! ### Digits -/
def kdL (i : Nat) : List Int := if i < 10 then [((48 + i : Nat) : Int)] else [((48 + i / 10 : Nat) : Int), ((48 + i % 10 : Nat) : Int)]
def kKey (i : Nat) : ByteArray := ⟨#[107]⟩ ++ strOf (kdL i)
theorem kKey_mem : ∀ i, i < 40 → kKey i = KS.getD (24 + i) ByteArray.empty := by
  have h : ((List.range 40).all fun i => (kKey i).data.toList == (KS.getD (24 + i) ByteArray.empty).data.toList) = true := by kernel_rfl
  intro i hi
  have h1 := List.all_eq_true.1 h i (List.mem_range.2 hi)
  rw [beq_iff_eq] at h1
  generalize KS.getD (24 + i) ByteArray.empty = z at h1
  generalize kKey i = k at h1
  cases k; cases z
  exact congrArg _ (Array.toList_inj.1 h1)
theorem kKey_in {i : Nat} (hi : i < 40) : kKey i ∈ KS := by
  rw [kKey_mem i hi, getD_at (show 24 + i < KS.length by show 24 + i < 64; omega)]
  exact List.getElem_mem _
theorem kKey_inj {i j : Nat} (hi : i < 40) (hj : j < 40) (h : kKey i = kKey j) : i = j := by
  have key : ∀ i, i < 40 → hk3 (kKey i) = KSn.getD (24 + i) 0 := by
    intro i hi
    rw [kKey_mem i hi]
    have h1 : 24 + i < KS.length := by show 24 + i < 64; omega
    rw [getD_at h1]
    have : (KS.map hk3).getD (24 + i) 0 = hk3 KS[24 + i] := by rw [getD_at (by rw [List.length_map]; exact h1), List.getElem_map]
    rw [← this, ks_map]
  have e := congrArg hk3 h
  rw [key i hi, key j hj] at e
  have all : ∀ i, i < 40 → ∀ j, j < 40 → KSn.getD (24 + i) 0 = KSn.getD (24 + j) 0 → i = j := by decide +kernel
  exact all i hi j hj e
theorem nodup_len {α : Type} : ∀ {l m : List α}, l.Nodup → (∀ x ∈ l, x ∈ m) → l.length ≤ m.length
  | [], _, _, _ => Nat.zero_le _
  | x :: l, m, hn, h => by
    obtain ⟨h1, h2⟩ := List.nodup_cons.1 hn
    obtain ⟨a, b, rfl⟩ := List.append_of_mem (h x List.mem_cons_self)
    have := nodup_len (m := a ++ b) h2 fun y hy => by
      have hy' := h y (List.mem_cons_of_mem _ hy)
      rcases List.mem_append.1 hy' with k | k
      · exact List.mem_append_left _ k
      · rcases List.mem_cons.1 k with k | k
        · subst k; exact absurd hy h1
        · exact List.mem_append_right _ k
    simp only [List.length_append, List.length_cons] at *
    omega
/-- So many keys of their own, so many leaves. -/
theorem many {L : List Branch} {i : Nat} (hi : i ≤ 40) (h : ∀ j, j < i → ∃ l ∈ L, hb l.Key = hb (kKey j)) : i ≤ L.length := by
  have hn : ((List.range i).map fun j => hb (kKey j)).Nodup := by
    refine List.pairwise_map.2 (List.Pairwise.imp_of_mem (R := fun a b => a ≠ b) ?_ List.nodup_range)
    intro a b ha hb' hab e
    rw [List.mem_range] at ha hb'
    exact hab (kKey_inj (by omega) (by omega) (noCol (kKey_in (by omega)) (kKey_in (by omega)) e))
  have hs : ∀ x ∈ ((List.range i).map fun j => hb (kKey j)), x ∈ L.map fun l => hb l.Key := by
    intro x hx
    obtain ⟨j, hj, rfl⟩ := List.mem_map.1 hx
    obtain ⟨l, hl, e⟩ := h j (List.mem_range.1 hj)
    exact List.mem_map.2 ⟨l, hl, e⟩
  have := nodup_len hn hs
  simpa using this
end Mir.Y
