/- Pure laws: maps and keys that are drawn. -/
import Derived.Test.YtojpcjbdehoibaaGreatKUE
namespace Mir.Y
set_option linter.unusedVariables false
set_option linter.unusedSimpArgs false
open Go
theorem pickG (N : Nat) {s : l00Src} {t : Nat} (h : SrcOK s t) (ht : t ≤ 4000000) (l : List ByteArray) (h1 : 1 < l.length) (h2 : l.length ≤ 256) : ∃ n q, n < l.length ∧ spec_l00Src_pick_.m N s l = some (l.getD n ByteArray.empty, q) ∧ SrcOK q (t + 1) := by
  obtain ⟨b, q, e, b0, b1, hq⟩ := nextS N h ht (show (1:Int) < (l.length : Int) by omega) (by omega)
  refine ⟨b.toNat, q, by omega, ?_, hq⟩
  have hz : ((l.length : Int) == 0) = false := by rw [beq_eq_false_iff_ne]; omega
  unfold spec_l00Src_pick_.m
  rw [hz, cond_false, e, ob_some, decide_eq_true b0, cond_true, decide_eq_true b1, cond_true]
def nmL : List ByteArray := [(⟨#[97]⟩ : ByteArray), (⟨#[98]⟩ : ByteArray), (⟨#[99]⟩ : ByteArray), (⟨#[100]⟩ : ByteArray), (⟨#[101]⟩ : ByteArray), (⟨#[102]⟩ : ByteArray), (⟨#[97, 108, 112, 104, 97]⟩ : ByteArray), (⟨#[98, 101, 116, 97]⟩ : ByteArray)]
def sfL : List ByteArray := [ByteArray.empty, ByteArray.empty, (⟨#[49]⟩ : ByteArray), (⟨#[50]⟩ : ByteArray)]
theorem nm_mem : ∀ n, n < 8 → ∀ m, m < 4 → nmL.getD n ByteArray.empty ++ sfL.getD m ByteArray.empty ∈ KS := by
  have h : ((List.range 8).all fun n => (List.range 4).all fun m => KS.any fun k => k.data.toList == (nmL.getD n ByteArray.empty ++ sfL.getD m ByteArray.empty).data.toList) = true := by kernel_rfl
  intro n hn m hm
  have h1 := List.all_eq_true.1 h n (List.mem_range.2 hn)
  have h2 := List.all_eq_true.1 h1 m (List.mem_range.2 hm)
  obtain ⟨k, hk, e⟩ := List.any_eq_true.1 h2
  rw [beq_iff_eq] at e
  have : k = nmL.getD n ByteArray.empty ++ sfL.getD m ByteArray.empty := by
    generalize nmL.getD n ByteArray.empty ++ sfL.getD m ByteArray.empty = z at e
    cases k; cases z
    exact congrArg _ (Array.toList_inj.1 e)
  rw [← this]; exact hk
theorem nm_size : ∀ n, n < 8 → ∀ m, m < 4 → (nmL.getD n ByteArray.empty).size + (sfL.getD m ByteArray.empty).size ≤ 100 := by decide
theorem mapKeyS (N : Nat) {s : l00Src} {t : Nat} (h : SrcOK s t) (ht : t ≤ 3999990) : ∃ k q, k ∈ KS ∧ spec_l00Src_mapKey.m N s = some (k, q) ∧ SrcOK q (t + 2) := by
  obtain ⟨n, q, n1, n2, n3⟩ := pickG N h (by omega) nmL (by decide) (by decide)
  obtain ⟨m, r, m1, m2, m3⟩ := pickG N n3 (by omega) sfL (by decide) (by decide)
  refine ⟨_, r, nm_mem n n1 m m1, ?_, m3⟩
  have hs := nm_size n n1 m m1
  show ob (spec_l00Src_pick_.m N s nmL) (fun y2 => ob (spec_l00Src_pick_.m N y2.2 sfL) fun y3 => bif decide (y2.1.size + y3.1.size ≤ 9223372036854775807) then some (y2.1 ++ y3.1, y3.2) else none) = _
  rw [n2, ob_some]
  show ob (spec_l00Src_pick_.m N q sfL) (fun y3 => bif decide ((nmL.getD n ByteArray.empty).size + y3.1.size ≤ 9223372036854775807) then some (nmL.getD n ByteArray.empty ++ y3.1, y3.2) else none) = _
  rw [m2, ob_some]
  show (bif decide ((nmL.getD n ByteArray.empty).size + (sfL.getD m ByteArray.empty).size ≤ 9223372036854775807) then some (nmL.getD n ByteArray.empty ++ sfL.getD m ByteArray.empty, r) else none) = _
  rw [decide_eq_true (by omega)]
  rfl
theorem mapKeyOf (N : Nat) (a : List Int) (hl : a.length ≤ 2000000) (hb' : ∀ x ∈ a, 0 ≤ x ∧ x < 256) : ∃ k, k ∈ KS ∧ spec_MapKeyOf.m N a = some k := by
  obtain ⟨k, q, h1, h2, _⟩ := mapKeyS N (srcNew hl hb') (by omega)
  refine ⟨k, h1, ?_⟩
  unfold spec_MapKeyOf.m
  rw [srcS, ob_some, h2, ob_some]
def dtL : List ByteArray := [ByteArray.empty, (⟨#[49]⟩ : ByteArray), (⟨#[50]⟩ : ByteArray), (⟨#[120]⟩ : ByteArray), (⟨#[108, 111, 110, 103, 101, 114, 32, 118, 97, 108, 117, 101]⟩ : ByteArray)]
theorem datumS (N : Nat) {s : l00Src} {t : Nat} (h : SrcOK s t) (ht : t ≤ 3999990) : ∃ d q, d.size ≤ 60 ∧ spec_l00Src_datum.m N s = some (d, q) ∧ SrcOK q (t + 1) := by
  obtain ⟨n, q, n1, n2, n3⟩ := pickG N h (by omega) dtL (by decide) (by decide)
  refine ⟨dtL.getD n ByteArray.empty, q, ?_, ?_, n3⟩
  · have : ∀ n, n < 5 → (dtL.getD n ByteArray.empty).size ≤ 60 := by decide
    exact this n n1
  · show ob (spec_l00Src_pick_.m N s dtL) (fun y2 => some (y2.1, y2.2)) = _
    rw [n2, ob_some]
theorem chanceS (N : Nat) {s : l00Src} {t : Nat} (h : SrcOK s t) (ht : t ≤ 3999990) {n : Int} (h1 : 1 < n) (hn : n ≤ 256) : ∃ c q, spec_l00Src_chance.m N s n = some (c, q) ∧ SrcOK q (t + 1) := by
  obtain ⟨b, q, e, b0, b1, hq⟩ := nextS N h (by omega) h1 hn
  unfold spec_l00Src_chance.m
  rw [e, ob_some]
  exact ⟨_, _, rfl, hq⟩
theorem sizeS (N : Nat) {s : l00Src} {t : Nat} (h : SrcOK s t) {n : Int} (h1 : 1 ≤ n) (hn : n ≤ 1000) : ∃ z : Int, spec_l00Src_size_.m N s n = some z ∧ 1 ≤ z ∧ z ≤ n := by
  unfold spec_l00Src_size_.m
  have hc := h.len
  have e1 : Int.tdiv (s.code.length : Int) 12 = ((s.code.length / 12 : Nat) : Int) := rfl
  have e2 : w64 ((s.code.length / 12 : Nat) : Int) = ((s.code.length / 12 : Nat) : Int) := w_small (by omega) (by omega)
  have e3 : w64 (1 + ((s.code.length / 12 : Nat) : Int)) = 1 + ((s.code.length / 12 : Nat) : Int) := w_small (by omega) (by omega)
  rw [show (!decide ((12:Int) = 0)) = true from rfl, cond_true, e1, e2, e3]
  by_cases hc : n < 1 + ((s.code.length / 12 : Nat) : Int)
  · exact ⟨n, by simp only [if_pos hc], h1, Int.le_refl _⟩
  · exact ⟨1 + ((s.code.length / 12 : Nat) : Int), by simp only [if_neg hc], by omega, by omega⟩
/-- The keys of a row of leaves are among those. -/
def inKS (L : List Branch) : Prop := ∀ l ∈ L, l.Key ∈ KS
theorem inKS.put {L L' : List Branch} {x : Branch} (h : inKS L) (p : PutR L x L') (hx : x.Key ∈ KS) : inKS L' := by
  intro l hl
  rcases p.mem l hl with rfl | hl
  · exact hx
  · exact h l hl
/-! ### Digits -/
def kdL (i : Nat) : List Int := if i < 10 then [((48 + i : Nat) : Int)] else [((48 + i / 10 : Nat) : Int), ((48 + i % 10 : Nat) : Int)]
theorem dig1 (N f : Nat) (i : Nat) (hi : i < 10) : spec_l00Digits.mF N (f + 1) (i : Int) = some (strOf [((48 + i : Nat) : Int)]) := by
  show spec_l00Digits.mb N (spec_l00Digits.mF N f) (i : Int) = _
  unfold spec_l00Digits.mb
  have e0 : ((i : Int) == -9223372036854775808) = false := by rw [beq_eq_false_iff_ne]; omega
  have e1 : wu8 (w64 (48 + (i : Int))) = ((48 + i : Nat) : Int) := by
    have : ∀ i : Nat, i < 10 → wu8 (w64 (48 + (i : Int))) = ((48 + i : Nat) : Int) := by decide
    exact this i hi
  rw [e0, cond_false, decide_eq_false (show ¬ (i : Int) < 0 by omega), cond_false, decide_eq_true (show (i : Int) < 10 by omega), cond_true, e1]
theorem digits {N : Nat} (hN : Big N) (i : Nat) (hi : i < 40) : spec_l00Digits.m N (i : Int) = some (strOf (kdL i)) := by
  obtain ⟨M, rfl⟩ : ∃ M, N = M + 2 := ⟨N - 2, by omega⟩
  unfold kdL
  by_cases h : i < 10
  · rw [if_pos h]
    exact dig1 (M + 2) (M + 1) i h
  · rw [if_neg h]
    show spec_l00Digits.mb (M + 2) (spec_l00Digits.mF (M + 2) (M + 1)) (i : Int) = _
    unfold spec_l00Digits.mb
    have e0 : ((i : Int) == -9223372036854775808) = false := by rw [beq_eq_false_iff_ne]; omega
    have t1 : Int.tdiv (i : Int) 10 = ((i / 10 : Nat) : Int) := rfl
    have t2 : Int.tmod (i : Int) 10 = ((i % 10 : Nat) : Int) := rfl
    have w1 : w64 ((i / 10 : Nat) : Int) = ((i / 10 : Nat) : Int) := w_small (by omega) (by omega)
    have e1 : wu8 (w64 (48 + ((i % 10 : Nat) : Int))) = ((48 + i % 10 : Nat) : Int) := by
      have : ∀ i : Nat, i < 10 → wu8 (w64 (48 + (i : Int))) = ((48 + i : Nat) : Int) := by decide
      exact this _ (Nat.mod_lt _ (by omega))
    have z1 : (strOf [((48 + i / 10 : Nat) : Int)]).size = 1 := strOf_size _
    have z2 : (strOf [((48 + i % 10 : Nat) : Int)]).size = 1 := strOf_size _
    rw [e0, cond_false, decide_eq_false (show ¬ (i : Int) < 0 by omega), cond_false, decide_eq_false (show ¬ (i : Int) < 10 by omega), cond_false, t1, t2, w1, dig1 (M + 2) M (i / 10) (by omega), ob_some, e1, z1, z2, strOf_append]
    rfl
def kKey (i : Nat) : ByteArray := ⟨#[107]⟩ ++ strOf (kdL i)
theorem kKey_mem : ∀ i, i < 40 → kKey i = KS.getD (24 + i) ByteArray.empty := by
  have h : ((List.range 40).all fun i => (kKey i).data.toList == (KS.getD (24 + i) ByteArray.empty).data.toList) = true := by kernel_rfl
  intro i hi
  have h1 := List.all_eq_true.1 h i (List.mem_range.2 hi)
  rw [beq_iff_eq] at h1
  generalize KS.getD (24 + i) ByteArray.empty = z at h1
  generalize kKey i = k at h1
  cases k; cases z
  exact congrArg _ (Array.toList_inj.1 h1)
theorem kKey_in {i : Nat} (hi : i < 40) : kKey i ∈ KS := by
  rw [kKey_mem i hi, getD_at (show 24 + i < KS.length by show 24 + i < 64; omega)]
  exact List.getElem_mem _
theorem kKey_inj {i j : Nat} (hi : i < 40) (hj : j < 40) (h : kKey i = kKey j) : i = j := by
  have key : ∀ i, i < 40 → hk3 (kKey i) = KSn.getD (24 + i) 0 := by
    intro i hi
    rw [kKey_mem i hi]
    have h1 : 24 + i < KS.length := by show 24 + i < 64; omega
    rw [getD_at h1]
    have : (KS.map hk3).getD (24 + i) 0 = hk3 KS[24 + i] := by rw [getD_at (by rw [List.length_map]; exact h1), List.getElem_map]
    rw [← this, ks_map]
  have e := congrArg hk3 h
  rw [key i hi, key j hj] at e
  have all : ∀ i, i < 40 → ∀ j, j < 40 → KSn.getD (24 + i) 0 = KSn.getD (24 + j) 0 → i = j := by decide +kernel
  exact all i hi j hj e
theorem nodup_len {α : Type} : ∀ {l m : List α}, l.Nodup → (∀ x ∈ l, x ∈ m) → l.length ≤ m.length
  | [], _, _, _ => Nat.zero_le _
  | x :: l, m, hn, h => by
    obtain ⟨h1, h2⟩ := List.nodup_cons.1 hn
    obtain ⟨a, b, rfl⟩ := List.append_of_mem (h x List.mem_cons_self)
    have := nodup_len (m := a ++ b) h2 fun y hy => by
      have hy' := h y (List.mem_cons_of_mem _ hy)
      rcases List.mem_append.1 hy' with k | k
      · exact List.mem_append_left _ k
      · rcases List.mem_cons.1 k with k | k
        · subst k; exact absurd hy h1
        · exact List.mem_append_right _ k
    simp only [List.length_append, List.length_cons] at *
    omega
/-- So many keys of their own, so many leaves. -/
theorem many {L : List Branch} {i : Nat} (hi : i ≤ 40) (h : ∀ j, j < i → ∃ l ∈ L, hb l.Key = hb (kKey j)) : i ≤ L.length := by
  have hn : ((List.range i).map fun j => hb (kKey j)).Nodup := by
    refine List.pairwise_map.2 (List.Pairwise.imp_of_mem (R := fun a b => a ≠ b) ?_ List.nodup_range)
    intro a b ha hb' hab e
    rw [List.mem_range] at ha hb'
    exact hab (kKey_inj (by omega) (by omega) (noCol (kKey_in (by omega)) (kKey_in (by omega)) e))
  have hs : ∀ x ∈ ((List.range i).map fun j => hb (kKey j)), x ∈ L.map fun l => hb l.Key := by
    intro x hx
    obtain ⟨j, hj, rfl⟩ := List.mem_map.1 hx
    obtain ⟨l, hl, e⟩ := h j (List.mem_range.1 hj)
    exact List.mem_map.2 ⟨l, hl, e⟩
  have := nodup_len hn hs
  simpa using this
variable {b b' : Branch} {L L' : List Branch}
theorem PutR.new {x : Branch} (p : PutR L x L') : x ∈ L' := by
  obtain ⟨A, M, B, p, rfl⟩ := p
  simp
theorem PutR.keep {x : Branch} (p : PutR L x L') : ∀ l ∈ L, ∃ l' ∈ L', hb l'.Key = hb l.Key := by
  obtain ⟨A, M, B, p, rfl⟩ := p
  intro l hl
  rw [p.eq] at hl
  rcases List.mem_append.1 hl with hl | hl
  · exact ⟨l, List.mem_append_left _ hl, rfl⟩
  · rcases List.mem_append.1 hl with hl | hl
    · rcases p.mid with rfl | ⟨z, rfl, hz⟩
      · cases hl
      · rw [List.mem_singleton] at hl
        subst hl
        exact ⟨x, by simp, hz.symm⟩
    · exact ⟨l, List.mem_append_right _ (List.mem_cons_of_mem _ hl), rfl⟩
def one118 : ByteArray := ⟨#[118]⟩
theorem one118_size : one118.size ≤ 60 := by decide
theorem draw8 {N : Nat} (hN : Big N) (a0 q : l00Src) (v4 v5 : ByteArray) (v6 : Int) : ∀ (m i K : Nat) (b : Branch) (L : List Branch), i + m = 40 → m < K → Mq b L → inKS L → L.length ≤ 40 → (∀ j, j < i → ∃ l ∈ L, hb l.Key = hb (kKey j)) →
    ∃ b' L', miter (fun rec => spec_l00Src_branch.step8 N a0 rec) K (.s1 (i : Int) q.code q.«at» q.seed v4 v5 v6 b.Key b.Value b.At b.Kids) = some (b', q) ∧ Mq b' L' ∧ L'.length ≤ 40 ∧ inKS L' := by
  intro m
  induction m with
  | zero =>
    intro i K b L hi hK hM hk hl hj
    obtain ⟨K, rfl⟩ : ∃ j, K = j + 1 := ⟨K - 1, by omega⟩
    have hm := many (L := L) (i := i) (by omega) hj
    rw [miter_s]
    simp only [spec_l00Src_branch.step8, brEta, hM.size hN (by omega), ob_some, decide_eq_false (show ¬ (L.length : Int) < 40 by omega), cond_false, hM.own hN]
    exact ⟨b, L, rfl, hM, hl, hk⟩
  | succ m ih =>
    intro i K b L hi hK hM hk hl hj
    obtain ⟨K, rfl⟩ : ∃ j, K = j + 1 := ⟨K - 1, by omega⟩
    rw [miter_s]
    simp only [spec_l00Src_branch.step8, brEta, hM.size hN (show L.length ≤ 1000 by omega), ob_some]
    by_cases h40 : (L.length : Int) < 40
    · have hkk := kKey_in (i := i) (by omega)
      have hs := ks_size _ hkk
      obtain ⟨b', L', p1, p2, p3⟩ := hM.put hN (k := kKey i) (v := one118) hs one118_size
      have hsz : (⟨#[107]⟩ : ByteArray).size + (strOf (kdL i)).size ≤ 9223372036854775807 := by
        rw [strOf_size]
        have : (kdL i).length ≤ 2 := by unfold kdL; split <;> simp
        have : (⟨#[107]⟩ : ByteArray).size = 1 := rfl
        omega
      have p1' : spec_l07Put.m N b ((⟨#[107]⟩ : ByteArray) ++ strOf (kdL i)) ⟨#[118]⟩ = some b' := p1
      rw [decide_eq_true h40]
      simp only [cond_true, digits hN i (by omega), ob_some, decide_eq_true hsz, p1', w_up i 40 (by omega) (by omega)]
      refine ih (i + 1) K b' L' (by omega) (by omega) p2 (hk.put p3 hkk) (by have := p3.len; omega) fun j hj' => ?_
      by_cases hji : j = i
      · subst hji
        exact ⟨_, p3.new, rfl⟩
      · obtain ⟨l, l1, l2⟩ := hj j (by omega)
        obtain ⟨l', k1, k2⟩ := p3.keep l l1
        exact ⟨l', k1, k2.trans l2⟩
    · rw [decide_eq_false h40]
      simp only [cond_false, hM.own hN, ob_some, brEta]
      exact ⟨b, L, rfl, hM, hl, hk⟩
theorem lp8_s0 {N : Nat} (hN : Big N) (a0 : l00Src) (v0 : Int) (v1 : List Int) (v2 v3 : Int) (v4 v5 : ByteArray) (v6 : Int) (v7 v8 : ByteArray) (v9 : Int) : spec_l00Src_branch.lp8 N a0 (.s0 v0 v1 v2 v3 v4 v5 v6 v7 v8 v9) = spec_l00Src_branch.lp8 N a0 (.s1 v0 v1 v2 v3 v4 v5 v6 v7 v8 v9 []) := by
  obtain ⟨M, rfl⟩ : ∃ M, N = M + 1 := ⟨N - 1, by omega⟩
  rfl
theorem lp3_s0 {N : Nat} (hN : Big N) (a0 : l00Src) (v0 : Int) (v1 : List Int) (v2 v3 : Int) (v4 v5 : ByteArray) (v6 : Int) (v7 v8 : ByteArray) (v9 : Int) : spec_l00Src_branch.lp3 N a0 (.s0 v0 v1 v2 v3 v4 v5 v6 v7 v8 v9) = spec_l00Src_branch.lp3 N a0 (.s1 v0 v1 v2 v3 v4 v5 v6 v7 v8 v9 []) := by
  have h8 := lp8_s0 hN a0
  unfold spec_l00Src_branch.lp3
  obtain ⟨M, hM⟩ : ∃ M, N = M + 1 := ⟨N - 1, by omega⟩
  have un : ∀ (g : (spec_l00Src_branch.A3 → Option spec_l00Src_branch.R) → (spec_l00Src_branch.A3 → Option spec_l00Src_branch.R)) (s), miter g N s = g (miter g M) s := by rw [hM]; intro g s; rfl
  rw [un, un]
  simp only [spec_l00Src_branch.step3, h8]
theorem draw3 {N : Nat} (hN : Big N) (a0 : l00Src) (v4 v5 : ByteArray) (v6 : Int) : ∀ (i K : Nat) (q : l00Src) (t : Nat) (b : Branch) (L : List Branch), i < K → SrcOK q t → t + 3 * i ≤ 3000000 → i ≤ 1000 → Mq b L → inKS L → L.length ≤ 40 →
    ∃ b' q' L', miter (fun rec => spec_l00Src_branch.step3 N a0 (spec_l00Src_branch.lp8 N a0) rec) K (.s1 (i : Int) q.code q.«at» q.seed v4 v5 v6 b.Key b.Value b.At b.Kids) = some (b', q') ∧ Mq b' L' ∧ L'.length ≤ 40 ∧ inKS L' := by
  have tail : ∀ (q : l00Src) (t : Nat) (b : Branch) (L : List Branch), SrcOK q t → t ≤ 3000000 → Mq b L → inKS L → L.length ≤ 40 → ∃ b' q' L', (ob (spec_l00Src_chance.m N q (40:Int)) fun y15 => bif y15.1 then spec_l00Src_branch.lp8 N a0 (.s1 (0:Int) y15.2.code y15.2.«at» y15.2.seed v4 v5 v6 b.Key b.Value b.At b.Kids) else some (b, y15.2)) = some (b', q') ∧ Mq b' L' ∧ L'.length ≤ 40 ∧ inKS L' := by
    intro q t b L hq ht hM hk hl
    obtain ⟨c, q', e, _⟩ := chanceS N hq (by omega) (show (1:Int) < 40 by omega) (by omega)
    rw [e, ob_some]
    cases c with
    | false => exact ⟨b, q', L, rfl, hM, hl, hk⟩
    | true =>
      obtain ⟨b', L', h1, h2⟩ := draw8 hN a0 q' v4 v5 v6 40 0 N b L (by omega) (by omega) hM hk hl (fun j hj => by omega)
      exact ⟨b', q', L', h1, h2⟩
  intro i
  induction i with
  | zero =>
    intro K q t b L hK hq ht _ hM hk hl
    obtain ⟨K, rfl⟩ : ∃ j, K = j + 1 := ⟨K - 1, by omega⟩
    rw [miter_s]
    simp only [spec_l00Src_branch.step3, decide_eq_false (show ¬ ((0 : Nat) : Int) > 0 by omega), cond_false, brEta, hM.own hN, ob_some]
    exact tail q t b L hq (by omega) hM hk hl
  | succ i ih =>
    intro K q t b L hK hq ht hi hM hk hl
    obtain ⟨K, rfl⟩ : ∃ j, K = j + 1 := ⟨K - 1, by omega⟩
    rw [miter_s]
    simp only [spec_l00Src_branch.step3, decide_eq_true (show ((i + 1 : Nat) : Int) > 0 by omega), cond_true, brEta, hM.size hN (show L.length ≤ 1000 by omega), hM.own hN, ob_some]
    by_cases h40 : (L.length : Int) < 40
    · rw [decide_eq_true h40]
      obtain ⟨k, q1, k1, k2, k3⟩ := mapKeyS N hq (by omega)
      obtain ⟨d, q2, d1, d2, d3⟩ := datumS N k3 (by omega)
      obtain ⟨b', L', p1, p2, p3⟩ := hM.put hN (k := k) (v := d) (ks_size k k1) d1
      have w : w64 (((i + 1 : Nat) : Int) - 1) = (i : Int) := by rw [w_small (by omega) (by omega)]; omega
      have k2' : spec_l00Src_mapKey.m N (l00Src.mk q.code q.«at» q.seed) = some (k, q1) := k2
      simp only [cond_true, k2', ob_some, d2, p1, w]
      exact ih K q2 (t + 3) b' L' (by omega) d3 (by omega) (by omega) p2 (hk.put p3 k1) (by have := p3.len; omega)
    · rw [decide_eq_false h40]
      simp only [cond_false]
      exact tail q t b L hq (by omega) hM hk hl
theorem branchS {N : Nat} (hN : Big N) {s : l00Src} {t : Nat} (h : SrcOK s t) (ht : t ≤ 2000000) : ∃ b q L, spec_l00Src_branch.m N s = some (b, q) ∧ Mq b L ∧ L.length ≤ 40 ∧ inKS L := by
  obtain ⟨z, z1, z2, z3⟩ := sizeS N h (show (1:Int) ≤ 12 by omega) (by omega)
  obtain ⟨n, q, e, n0, n1, hq⟩ := nextS N h (by omega) (show (1:Int) < z + 3 by omega) (by omega)
  have w : w64 (z + 3) = z + 3 := w_small (by omega) (by omega)
  unfold spec_l00Src_branch.m
  rw [z1, ob_some, w, e, ob_some]
  obtain ⟨i, hi⟩ : ∃ i : Nat, n = (i : Int) := ⟨n.toNat, by omega⟩
  obtain ⟨b', q', L', r1, r2, r3, r4⟩ := draw3 hN s ByteArray.empty ByteArray.empty 0 i N q (t + 1) eB [] (by omega) hq (by omega) (by omega) (.inl ⟨rfl, rfl⟩) (fun l hl => by cases hl) (by simp)
  refine ⟨b', q', L', ?_, r2, r3, r4⟩
  simp only [hi]
  rw [lp3_s0 hN]
  exact r1
theorem mapOfS {N : Nat} (hN : Big N) (a : List Int) (hl : a.length ≤ 1048576) (hb' : ∀ x ∈ a, 0 ≤ x ∧ x < 256) : ∃ b L, spec_MapOf.m N a = some b ∧ Mq b L ∧ L.length ≤ 40 ∧ inKS L := by
  obtain ⟨b, q, L, e, h⟩ := branchS hN (srcNew (show a.length ≤ 2000000 by omega) hb') (by omega)
  refine ⟨b, L, ?_, h⟩
  unfold spec_MapOf.m
  rw [srcS, ob_some, e, ob_some, brEta]
/-! ### FnMapDrops -/
end Mir.Y
