/- Pure laws: what is proved of a key is accepted; FnMapProofs. -/
import Derived.Test.YtojpcjbdehoibaaGreatKXA
namespace Mir.Y
set_option linter.unusedVariables false
set_option linter.unusedSimpArgs false
open Go
variable {L : List Branch} {b : Branch} {h g : ByteArray} {S : List MapStep}
theorem fr_size {o : ByteArray} (ho : o.size = 32) : ∀ {S : List MapStep}, (fr h S o).size = 32
  | [] => ho
  | s :: S => by
    show (fr1 h s (fr h S o)).size = 32
    unfold fr1
    split <;> exact hb_size _
theorem cmpLX (N : Nat) {a c : Int} (hl : a < c) : cmp_Compare_int.m N a c = some (-1) := by
  unfold cmp_Compare_int.m cmp_isNaN_int.m
  simp only [bne_self_eq_false, ob_some, cond_false, decide_eq_true hl, cond_true]
theorem withinX (N : Nat) (x a c : Int) : impl_within.m N x a c = some (decide (x ≥ a) && decide (x ≤ c)) := by
  unfold impl_within.m
  cases decide (x ≥ a) <;> rfl
theorem inX (N : Nat) (x a c : Int) : spec_l01In.m N x a c = some (decide (x ≥ a) && decide (x ≤ c)) := by
  unfold spec_l01In.m
  cases decide (x ≥ a) <;> rfl
theorem isHashX {N : Nat} (hN : Big N) {x : ByteArray} (hx : x.size = 32) : impl_isHash.m N [x] = some true := by
  obtain ⟨M, rfl⟩ : ∃ M, N = M + 9 := ⟨N - 9, by omega⟩
  unfold impl_isHash.m slices_ContainsFunc_string_string__impl_isHash_1.m slices_IndexFunc_string_string__impl_isHash_1.m slices_IndexFunc_string_string__impl_isHash_1.lp2
  have e : slices_IndexFunc_string_string__impl_isHash_1.lp2 (M + 9) [x] ((([x] : List ByteArray).length : Int), 0) = bif ((x.size : Int) != 32) then some 0 else some (-1) := by
    unfold slices_IndexFunc_string_string__impl_isHash_1.lp2
    kernel_rfl
  have e2 : ((x.size : Int) != 32) = false := by rw [hx]; rfl
  rw [e2, cond_false] at e
  unfold slices_IndexFunc_string_string__impl_isHash_1.lp2 at e
  rw [e]
  rfl
theorem isText2X {N : Nat} (hN : Big N) {x y : ByteArray} (hx : x.size ≤ 65536) (hy : y.size ≤ 65536) : impl_isText.m N [x, y] = some true := by
  obtain ⟨M, rfl⟩ : ∃ M, N = M + 9 := ⟨N - 9, by omega⟩
  unfold impl_isText.m slices_ContainsFunc_string_string__impl_isText_1.m slices_IndexFunc_string_string__impl_isText_1.m
  have : slices_IndexFunc_string_string__impl_isText_1.lp2 (M + 9) [x, y] ((([x, y] : List ByteArray).length : Int), 0) = bif decide ((x.size : Int) > 65536) then some 0 else bif decide ((y.size : Int) > 65536) then some 1 else some (-1) := by
    unfold slices_IndexFunc_string_string__impl_isText_1.lp2
    kernel_rfl
  rw [this, decide_eq_false (show ¬ (x.size : Int) > 65536 by omega), decide_eq_false (show ¬ (y.size : Int) > 65536 by omega)]
  rfl
theorem stepsOKX {N : Nat} (hN : Big N) (w : WOK h g 0 S) : impl_stepsOK.m N S = some true := by
  have hl := w.len
  unfold impl_stepsOK.m impl_stepsOK.lp2
  exact miter_up (step := fun rec => impl_stepsOK.step2 N S rec) (n := S.length) (st := fun i => ((S.length : Int), (i : Int))) (fun i hi rec => by
    obtain ⟨A, q1, q2, q3, q4, q5⟩ := w.each _ (List.getElem_mem hi)
    have hA : (decide ((A : Int) ≥ 0) && decide ((A : Int) ≤ 255)) = true := by rw [decide_eq_true (show (A : Int) ≥ 0 by omega), decide_eq_true (show (A : Int) ≤ 255 by omega)]; rfl
    simp only [impl_stepsOK.step2, lt_dec hi, nn_dec, cond_true, Int.toNat_natCast, getD_at hi, withinX, q1, hA, decide_eq_true (show (A : Int) ≤ 255 by omega), Bool.true_and, ob_some, Bool.not_true, cond_false]
    by_cases h0 : 0 < i
    · have hd : w64 ((i : Int) - 1) = ((i - 1 : Nat) : Int) := by rw [w_small (by omega) (by omega)]; omega
      have hlt : S[i - 1].At < S[i].At := List.pairwise_iff_getElem.1 w.rise (i - 1) i (by omega) hi (by omega)
      rw [q1] at hlt
      simp only [decide_eq_true (show (i : Int) > 0 by omega), cond_true, hd, nn_dec, lt_dec (show i - 1 < S.length by omega), Int.toNat_natCast, getD_at (show i - 1 < S.length by omega), cmpLX N hlt, ob_some, isHashX hN q4, Bool.not_true, cond_false, show decide ((-1 : Int) ≥ 0) = false from rfl]
      rw [w_up i _ hi (by omega)]
    · rw [decide_eq_false (show ¬ (i : Int) > 0 by omega), cond_false]
      simp only [isHashX hN q4, ob_some, Bool.not_true, cond_false]
      rw [w_up i _ hi (by omega)]) (fun rec => by
      simp only [impl_stepsOK.step2, decide_eq_false (show ¬ (S.length : Int) < S.length by omega), cond_false, decide_eq_true (show (S.length : Int) ≤ 256 by omega)]) S.length 0 N (by omega) (by omega)
theorem apartX {N : Nat} (hN : Big N) (hh : h.size = 32) (hg : g.size = 32) (w : WOK h g 0 S) : slices_ContainsFunc_impl_MapStep_impl_MapStep__impl_checkKey_1.m N S h g = some false := by
  have hl := w.len
  unfold slices_ContainsFunc_impl_MapStep_impl_MapStep__impl_checkKey_1.m slices_IndexFunc_impl_MapStep_impl_MapStep__impl_checkKey_1.m slices_IndexFunc_impl_MapStep_impl_MapStep__impl_checkKey_1.lp2
  have e := miter_up (step := fun rec => slices_IndexFunc_impl_MapStep_impl_MapStep__impl_checkKey_1.step2 N S h g rec) (n := S.length) (st := fun i => ((S.length : Int), (i : Int))) (r := some (-1)) (fun i hi rec => by
    obtain ⟨A, q1, q2, q3, q4, q5⟩ := w.each _ (List.getElem_mem hi)
    simp only [slices_IndexFunc_impl_MapStep_impl_MapStep__impl_checkKey_1.step2, lt_dec hi, nn_dec, cond_true, Int.toNat_natCast, getD_at hi, impl_checkKey_1.m, q1, implBit N hh (show A < 256 by omega), implBit N hg (show A < 256 by omega), q5, ob_some, bne_self_eq_false, cond_false]
    rw [w_up i _ hi (by omega)]) (fun rec => by simp only [slices_IndexFunc_impl_MapStep_impl_MapStep__impl_checkKey_1.step2, decide_eq_false (show ¬ (S.length : Int) < S.length by omega), cond_false]) S.length 0 N (by omega) (by omega)
  have e : miter (fun rec => slices_IndexFunc_impl_MapStep_impl_MapStep__impl_checkKey_1.step2 N S h g rec) N ((S.length : Int), (0 : Int)) = some (-1) := e
  rw [e]
  rfl
theorem stX {N : Nat} (hN : Big N) (hh : h.size = 32) {s : MapStep} {A : Nat} (q1 : s.At = (A : Int)) (q3 : A ≤ 255) (q4 : s.Hash.size = 32) {o : ByteArray} (ho : o.size = 32) : impl_MapProof_rootOf.st N h s.At s.Hash o = some (fr1 h s o) := by
  unfold impl_MapProof_rootOf.st fr1
  rw [q1, implBit N hh (show A < 256 by omega), ob_some, Int.toNat_natCast]
  by_cases hb0 : bt h A = 0
  · have e : ((bt h A : Int) == (0 : Int)) = true := by rw [hb0]; rfl
    rw [e, cond_true, if_pos hb0, implFk hN _ _ _ ho q4]
  · have e : ((bt h A : Int) == (0 : Int)) = false := by rw [beq_eq_false_iff_ne]; omega
    rw [e, cond_false, if_neg hb0, implFk hN _ _ _ q4 ho]
theorem fo_appX (N : Nat) (h : ByteArray) (x : MapStep) : ∀ (l : List MapStep) (o : ByteArray), impl_MapProof_rootOf.fo N h (l ++ [x]) o = ob (impl_MapProof_rootOf.fo N h l o) (impl_MapProof_rootOf.st N h x.At x.Hash)
  | [], o => by simp only [List.nil_append, impl_MapProof_rootOf.fo, ob_some]; cases impl_MapProof_rootOf.st N h x.At x.Hash o <;> rfl
  | y :: l, o => by
    simp only [List.cons_append, impl_MapProof_rootOf.fo]
    cases impl_MapProof_rootOf.st N h y.At y.Hash o with
    | none => rfl
    | some z => exact fo_appX N h x l z
theorem foX {N : Nat} (hN : Big N) (hh : h.size = 32) {o : ByteArray} (ho : o.size = 32) : ∀ {S : List MapStep}, (∀ s ∈ S, ∃ A : Nat, s.At = (A : Int) ∧ A ≤ 255 ∧ s.Hash.size = 32) → impl_MapProof_rootOf.fo N h S.reverse o = some (fr h S o)
  | [], _ => rfl
  | s :: S, w => by
    obtain ⟨A, q1, q3, q4⟩ := w s List.mem_cons_self
    rw [List.reverse_cons, fo_appX, foX hN hh ho (fun t ht => w t (List.mem_cons_of_mem _ ht)), ob_some, stX hN hh q1 q3 q4 (fr_size ho)]
    rfl
theorem rootOfX {N : Nat} (hN : Big N) (hh : h.size = 32) (w : WOK h g 0 S) (f : Bool) {K V : ByteArray} (hK : K.size ≤ 24) (hV : V.size ≤ 61) : impl_MapProof_rootOf.m N (MapProof.mk f K V S) h = some (fr h S (lfH K V)) := by
  have hl := w.len
  have hLf := implLf hN K V (by omega) (by omega)
  have hok : impl_MapProof_rootOf.Ok N (MapProof.mk f K V S) h := by
    refine ⟨?_, fun s hs o ho => ?_, lfH K V, hLf, hb_size _⟩
    · show S.length ≤ 1048576000
      omega
    · obtain ⟨A, q1, q2, q3, q4, q5⟩ := w.each s hs
      refine ⟨_, stX hN hh q1 q3 q4 ho, ?_⟩
      unfold fr1
      split <;> exact hb_size _
  unfold impl_MapProof_rootOf.m
  rw [if_pos hok, hLf, ob_some]
  exact foX hN hh (hb_size _) fun s hs => by
    obtain ⟨A, q1, q2, q3, q4, q5⟩ := w.each s hs
    exact ⟨A, q1, q3, q4⟩
theorem checkX {N : Nat} (hN : Big N) (hh : h.size = 32) (w : WOK h g 0 S) {o : ByteArray} (ho : o.size = 32) : spec_l07Check.m N h S o = some (fr h S o) := by
  have hl := w.len
  unfold spec_l07Check.m spec_l07Check.lp3
  have go : ∀ (k K : Nat), k ≤ S.length → k < K → miter (fun rec => spec_l07Check.step3 N h S o rec) K (fr h (S.drop k) o, (k : Int) - 1) = some (fr h S o) := by
    intro k
    induction k with
    | zero =>
      intro K _ hK
      obtain ⟨K, rfl⟩ : ∃ j, K = j + 1 := ⟨K - 1, by omega⟩
      rw [miter_s, List.drop_zero]
      simp only [spec_l07Check.step3]
      rfl
    | succ k ih =>
      intro K hk hK
      obtain ⟨K, rfl⟩ : ∃ j, K = j + 1 := ⟨K - 1, by omega⟩
      have hi : k < S.length := by omega
      obtain ⟨A, q1, q2, q3, q4, q5⟩ := w.each _ (List.getElem_mem hi)
      have hs : (fr h (S.drop (k + 1)) o).size = 32 := fr_size ho
      have ek : (((k + 1 : Nat) : Int) - 1) = (k : Int) := by omega
      have wd : w64 ((k : Int) - 1) = (k : Int) - 1 := w_small (by omega) (by omega)
      have hd : fr h (S.drop k) o = fr1 h S[k] (fr h (S.drop (k + 1)) o) := by rw [List.drop_eq_getElem_cons hi]; rfl
      rw [miter_s, ek]
      simp only [spec_l07Check.step3, decide_eq_true (show (k : Int) ≥ 0 by omega), cond_true, nn_dec, lt_dec hi, Int.toNat_natCast, getD_at hi, q1, specBit N hh (show A < 256 by omega), ob_some]
      rw [← ih K (by omega) (by omega), hd]
      unfold fr1
      rw [q1, Int.toNat_natCast]
      by_cases hb0 : bt h A = 0
      · have e : ((bt h A : Int) == (0 : Int)) = true := by rw [hb0]; rfl
        rw [e, cond_true, if_pos hb0, specFk hN _ _ _ hs q4, ob_some, wd]
      · have e : ((bt h A : Int) == (0 : Int)) = false := by rw [beq_eq_false_iff_ne]; omega
        rw [e, cond_false, if_neg hb0, specFk hN _ _ _ q4 hs, ob_some, wd]
  have := go S.length N (Nat.le_refl _) (by omega)
  rw [List.drop_length] at this
  rw [w_small (by omega) (by omega)]
  exact this
theorem ne_em {K : ByteArray} (hK : 1 ≤ K.size) : seq K ByteArray.empty = false := by
  rw [Bool.eq_false_iff]
  intro e
  rw [seq_iff] at e
  rw [e] at hK
  exact absurd hK (by decide)
theorem chkI {N : Nat} (hN : Big N) {k r K V : ByteArray} (hk : 1 ≤ k.size ∧ k.size ≤ 24) (hK : 1 ≤ K.size ∧ K.size ≤ 24) (hV : V.size ≤ 60) (hr : r.size = 32) (w : WOK (hb k) (hb K) 0 S) :
    impl_CheckKey.m N r k (MapProof.mk (seq K k) K V S) = some (if fr (hb k) S (lfH K V) = r then 0 else 11) := by
  unfold impl_CheckKey.m impl_isValue.m impl_checkKey.m
  rw [isText2X hN (by omega) (by omega), isHashX hN hr, (keyOK hk N).1]
  simp only [ob_some, Bool.not_true, cond_false, stepsOKX hN w, decide_eq_true (show (V.size : Int) ≤ 60 by omega), ne_em hK.1, implHash hN k (by omega), implHash hN K (by omega), (keyOK hK N).1, beq_self_eq_true, apartX hN (hb_size _) (hb_size _) w, rootOfX hN (hb_size _) w _ hK.2 (show V.size ≤ 61 by omega)]
  by_cases e : fr (hb k) S (lfH K V) = r
  · rw [if_pos e, seq_iff.2 e]; rfl
  · rw [if_neg e, show seq (fr (hb k) S (lfH K V)) r = false from Bool.eq_false_iff.2 fun q => e (seq_iff.1 q)]; rfl
theorem chkS {N : Nat} (hN : Big N) {k r K V : ByteArray} (hk : 1 ≤ k.size ∧ k.size ≤ 24) (hK : 1 ≤ K.size ∧ K.size ≤ 24) (hV : V.size ≤ 60) (hr : r.size = 32) (w : WOK (hb k) (hb K) 0 S) :
    spec_CheckKey.m N r k (MapProof.mk (seq K k) K V S) = some (if fr (hb k) S (lfH K V) = r then 0 else 11) := by
  have hl := w.len
  have hh := hb_size k
  have hg := hb_size K
  unfold spec_CheckKey.m
  rw [(keyOK hk N).2]
  simp only [ob_some, Bool.not_true, cond_false, decide_eq_false (show ¬ (r.size : Int) > 65536 by omega), decide_eq_false (show ¬ (S.length : Int) > 4096 by omega), decide_eq_false (show ¬ (k.size : Int) > 65536 by omega), decide_eq_false (show ¬ (K.size : Int) > 65536 by omega), decide_eq_false (show ¬ (V.size : Int) > 65536 by omega), show ((r.size : Int) != 32) = false by rw [hr]; rfl, decide_eq_false (show ¬ (S.length : Int) > 256 by omega), decide_eq_false (show ¬ (V.size : Int) > 60 by omega)]
  have e2 : spec_CheckKey.lp21 N r k (MapProof.mk (seq K k) K V S) (hb k, hb K, 0) = some (if fr (hb k) S (lfH K V) = r then 0 else 11) := by
    unfold spec_CheckKey.lp21
    exact miter_up (step := fun rec => spec_CheckKey.step21 N r k (MapProof.mk (seq K k) K V S) rec) (n := S.length) (st := fun i => (hb k, hb K, (i : Int))) (fun i hi rec => by
      obtain ⟨A, q1, q2, q3, q4, q5⟩ := w.each _ (List.getElem_mem hi)
      simp only [spec_CheckKey.step21, lt_dec hi, nn_dec, cond_true, Int.toNat_natCast, getD_at hi, q1, specBit N hh (show A < 256 by omega), specBit N hg (show A < 256 by omega), q5, ob_some, bne_self_eq_false, cond_false]
      rw [w_up i _ hi (by omega)]) (fun rec => by
      simp only [spec_CheckKey.step21, decide_eq_false (show ¬ (S.length : Int) < S.length by omega), cond_false, specLf hN K V (by omega) (by omega), ob_some, checkX hN hh w (show (lfH K V).size = 32 from hb_size _)]
      by_cases e : fr (hb k) S (lfH K V) = r
      · rw [if_pos e, seq_iff.2 e]; rfl
      · rw [if_neg e, show seq (fr (hb k) S (lfH K V)) r = false from Bool.eq_false_iff.2 fun q => e (seq_iff.1 q)]; rfl) S.length 0 N (by omega) (by omega)
  unfold spec_CheckKey.lp8
  exact miter_up (step := fun rec => spec_CheckKey.step8 N r k (MapProof.mk (seq K k) K V S) (spec_CheckKey.lp21 N r k (MapProof.mk (seq K k) K V S)) rec) (n := S.length) (st := fun i => (i : Int)) (fun i hi rec => by
    obtain ⟨A, q1, q2, q3, q4, q5⟩ := w.each _ (List.getElem_mem hi)
    have hA : (decide ((A : Int) ≥ 0) && decide ((A : Int) ≤ 255)) = true := by rw [decide_eq_true (show (A : Int) ≥ 0 by omega), decide_eq_true (show (A : Int) ≤ 255 by omega)]; rfl
    have hz : ((S[i].Hash.size : Int) != 32) = false := by rw [q4]; rfl
    simp only [spec_CheckKey.step8, lt_dec hi, nn_dec, cond_true, Int.toNat_natCast, getD_at hi, inX, q1, hA, decide_eq_true (show (A : Int) ≤ 255 by omega), Bool.true_and, ob_some, Bool.not_true, cond_false]
    by_cases h0 : 0 < i
    · have hd : w64 ((i : Int) - 1) = ((i - 1 : Nat) : Int) := by rw [w_small (by omega) (by omega)]; omega
      have hlt : S[i - 1].At < S[i].At := List.pairwise_iff_getElem.1 w.rise (i - 1) i (by omega) hi (by omega)
      rw [q1] at hlt
      simp only [decide_eq_true (show (i : Int) > 0 by omega), cond_true, hd, nn_dec, lt_dec (show i - 1 < S.length by omega), Int.toNat_natCast, getD_at (show i - 1 < S.length by omega), decide_eq_false (show ¬ S[i - 1].At ≥ (A : Int) by omega), hz, cond_false]
      rw [w_up i _ hi (by omega)]
    · rw [decide_eq_false (show ¬ (i : Int) > 0 by omega), cond_false]
      simp only [hz, cond_false]
      rw [w_up i _ hi (by omega)]) (fun rec => by
    simp only [spec_CheckKey.step8, decide_eq_false (show ¬ (S.length : Int) < S.length by omega), cond_false, ne_em hK.1, (keyOK hK N).2, ob_some, Bool.not_true, beq_self_eq_true, l07Hash hN k (by omega), l07Hash hN K (by omega), e2]) S.length 0 N (by omega) (by omega)
theorem chk0 {N : Nat} (hN : Big N) {k r : ByteArray} (hk : 1 ≤ k.size ∧ k.size ≤ 24) (hr : r.size = 32) :
    impl_CheckKey.m N r k (MapProof.mk false ByteArray.empty ByteArray.empty []) = some (if r = hb ⟨#[2]⟩ then 0 else 10) := by
  have w : WOK (hb k) (hb k) 0 [] := ⟨fun s hs => (by cases hs), List.Pairwise.nil, by simp⟩
  unfold impl_CheckKey.m impl_isValue.m impl_checkKey.m
  have e0 : decide (((ByteArray.empty.size : Nat) : Int) ≤ 60) = true := rfl
  have es : seq ByteArray.empty ByteArray.empty = true := seq_iff.2 rfl
  rw [isText2X hN (by omega) (by omega), isHashX hN hr, (keyOK hk N).1]
  simp only [ob_some, Bool.not_true, cond_false, cond_true, stepsOKX hN w, e0, es, implHash hN ⟨#[2]⟩ (by decide), show decide ((([] : List MapStep).length : Int) > 0) = false from rfl]
  by_cases e : r = hb ⟨#[2]⟩
  · rw [if_pos e, seq_iff.2 e]; rfl
  · rw [if_neg e, show seq r (hb ⟨#[2]⟩) = false from Bool.eq_false_iff.2 fun q => e (seq_iff.1 q)]; rfl
theorem thereX {A M B : List Branch} {h : ByteArray} (p : Part L h A M B) {z : Branch} (hz : z ∈ L) (he : hb z.Key = h) : M = [z] := by
  rw [p.eq] at hz
  rcases List.mem_append.1 hz with hz | hz
  · have := p.lo z hz
    rw [he] at this
    exact absurd this (hlt_irrefl h)
  · rcases List.mem_append.1 hz with hz | hz
    · rcases p.mid with rfl | ⟨y, rfl, _⟩
      · cases hz
      · rw [List.mem_singleton] at hz; rw [hz]
    · have := p.hi z hz
      rw [he] at this
      exact absurd this (hlt_irrefl h)
theorem sameX {N : Nat} (hN : Big N) (p : MapProof) (hl : p.Steps.length ≤ 1000) : laws_sameProof.m N p p = some true := by
  unfold laws_sameProof.m laws_sameProof.lp4
  simp only [beq_self_eq_true, Bool.not_true, cond_false, seq_iff.2 rfl, bne_self_eq_false]
  exact miter_up (step := fun rec => laws_sameProof.step4 N p p rec) (n := p.Steps.length) (st := fun i => (i : Int)) (fun i hi rec => by
    simp only [laws_sameProof.step4, lt_dec hi, nn_dec, cond_true, Int.toNat_natCast, getD_at hi, seq_iff.2 rfl, beq_self_eq_true, Bool.and_self, Bool.not_true, cond_false]
    rw [w_up i _ hi (by omega)]) (fun rec => by simp [laws_sameProof.step4]) p.Steps.length 0 N (by omega) (by omega)
/-! ### FnMapProofs -/
theorem pureFnMapProofs (a0 a1 : List Int) (h0 : ∃ n, WfE E (WfA E n) (.slice 5 (.int .u8)) a0) (h1 : ∃ n, WfE E (WfA E n) (.slice 5 (.int .u8)) a1) : ∃ N, laws_FnMapProofs.m N a0 a1 = some true := by
  have w0 := wfBytes h0
  have w1 := wfBytes h1
  refine ⟨16777216, ?_⟩
  have hN : Big 16777216 := Nat.le_refl _
  generalize 16777216 = N at hN
  unfold laws_FnMapProofs.m
  by_cases c0 : (a0.length : Int) > 1048576
  · rw [decide_eq_true c0]; rfl
  by_cases c1 : (a1.length : Int) > 1048576
  · rw [decide_eq_true c1, decide_eq_false c0]; rfl
  obtain ⟨b, L, e1, hM, hL, hI⟩ := mapOfS hN a0 (by omega) w0
  obtain ⟨k, hkm, e2⟩ := mapKeyOf N a1 (by omega) w1
  have hk := ks_size k hkm
  obtain ⟨o, e3, ho⟩ := hashOf hN a1 (by omega) w1
  obtain ⟨A, M, B, p⟩ := part_of (hb_size k) hM.srt
  have hG := getM hN hM hL hk p
  rw [decide_eq_false c0, decide_eq_false c1, e1, ob_some, e2, ob_some]
  simp only [cond_false, brEta, ob_some, e3]
  -- what is asked of the map's root and proof
  have rooted : ∀ r : ByteArray, impl_mapRoot.m N b = some r → impl_MapRoot.m N b = some (r, 0) := by
    intro r hr
    unfold impl_MapRoot.m
    rw [brEta, hM.implOK hN hL, ob_some]
    simp only [Bool.not_true, cond_false, hr, ob_some]
  rcases hM.em with ⟨em, rfl⟩ | ⟨em, hC, hLv⟩
  · -- nothing there
    obtain rfl : M = [] := by
      have := p.len
      cases M with
      | nil => rfl
      | cons x r => exfalso; simp only [List.length_nil, List.length_cons] at this; omega
    have hG : impl_MapGet.m N b k = some (ByteArray.empty, 5) := hG
    have hR : impl_mapRoot.m N b = some (hb ⟨#[2]⟩) := by
      obtain ⟨M, hM⟩ : ∃ M, N = M + 1 := ⟨N - 1, by omega⟩
      have : impl_mapRoot.m N b = impl_mapRoot.mb N (impl_mapRoot.mF N M) b := by unfold impl_mapRoot.m; rw [show impl_mapRoot.mF N N = impl_mapRoot.mF N (M + 1) by rw [← hM]]; rfl
      rw [this]
      unfold impl_mapRoot.mb
      rw [brEta, isEmptyI, ob_some, em, cond_true, implHash hN ⟨#[2]⟩ (by decide)]
      rfl
    have hP : impl_ProveKey.m N b k = some (MapProof.mk false ByteArray.empty ByteArray.empty [], 0) ∧ spec_ProveKey.m N b k = some (MapProof.mk false ByteArray.empty ByteArray.empty [], 0) := by
      unfold spec_ProveKey.m impl_ProveKey.m spec_l07Prove.m
      simp only [brEta]
      rw [mapCodeM hN hM hL hk, hM.specOK hN hL, (keyOK hk N).2, implHash hN k (by omega), isEmptyI, l07Empty, em]
      simp only [ob_some, decide_eq_false (show ¬ (k.size : Int) > 65536 by omega), cond_false, Bool.not_true]
      exact ⟨rfl, rfl⟩
    have hr32 := hb_size ⟨#[2]⟩
    have hc := chk0 hN hk hr32
    rw [if_pos rfl] at hc
    have hco := chk0 hN hk ho
    simp only [rooted _ hR, hP.1, hP.2, hG, ob_some, bne_self_eq_false, cond_false, sameX hN _ (show (MapProof.mk false ByteArray.empty ByteArray.empty []).Steps.length ≤ 1000 by simp), Bool.not_true, hc, hco, show ((5:Int) == 0) = false from rfl, beq_self_eq_true, seq_iff.2 rfl]
    by_cases e : o = hb ⟨#[2]⟩
    · rw [seq_iff.2 e]; rfl
    · rw [if_neg e, show seq o (hb ⟨#[2]⟩) = false from Bool.eq_false_iff.2 fun q => e (seq_iff.1 q)]; rfl
  · -- the way down to a leaf
    have hR : impl_mapRoot.m N b = some (rt 257 b) := (rootsR hN 257 N b [] (by omega) hC).2
    have hr32 := rt_size hC
    have w := way_ok (h := hb k) hC (by simp)
    have hroot := way_root (h := hb k) hC
    have hnm := near_mem (h := hb k) hC
    rw [hLv] at hnm
    have hnl := C_lf hC _ (near_mem (h := hb k) hC)
    generalize hz : near 257 (hb k) b = z at w hroot hnm hnl
    obtain ⟨z1, z2, z3, z4⟩ := hnl
    have hP : impl_ProveKey.m N b k = some (MapProof.mk (seq z.Key k) z.Key z.Value (Way (hb k) 257 b), 0) ∧ spec_ProveKey.m N b k = some (MapProof.mk (seq z.Key k) z.Key z.Value (Way (hb k) 257 b), 0) := by
      obtain ⟨i1, i2⟩ := proveW hN b k (hb k) ByteArray.empty ByteArray.empty ByteArray.empty ByteArray.empty (hb_size k) 257 N b [] [] (by omega) (by omega) hC (Nat.le_refl _) (Nat.zero_le _)
      rw [hz, List.nil_append] at i1 i2
      have i1' : spec_l07Prove.lp5 N b k (hb k, b.Key, b.Value, b.At, b.Kids, ByteArray.empty, ByteArray.empty, ByteArray.empty, ByteArray.empty, []) = some (MapProof.mk (seq z.Key k) z.Key z.Value (Way (hb k) 257 b)) := i1
      have i2' : impl_ProveKey.lp7 N b k (.s0 (hb k) ByteArray.empty ByteArray.empty ByteArray.empty ByteArray.empty) = some (MapProof.mk (seq z.Key k) z.Key z.Value (Way (hb k) 257 b), 0) := by
        rw [← i2]
        unfold impl_ProveKey.lp7
        obtain ⟨M, hM⟩ : ∃ M, N = M + 1 := ⟨N - 1, by omega⟩
        have un : ∀ (g : (impl_ProveKey.A7 → Option impl_ProveKey.R) → (impl_ProveKey.A7 → Option impl_ProveKey.R)) (s), miter g N s = g (miter g M) s := by rw [hM]; intro g s; rfl
        rw [un, un]
        rfl
      unfold spec_ProveKey.m impl_ProveKey.m spec_l07Prove.m
      simp only [brEta]
      rw [mapCodeM hN hM hL hk, hM.specOK hN hL, (keyOK hk N).2, implHash hN k (by omega), isEmptyI, l07Empty, em, l07Hash hN k (by omega)]
      simp only [ob_some, decide_eq_false (show ¬ (k.size : Int) > 65536 by omega), cond_false, Bool.not_true, bne_self_eq_false, i1', i2']
      constructor <;> first | trivial | rfl
    have hS : (MapProof.mk (seq z.Key k) z.Key z.Value (Way (hb k) 257 b)).Steps.length ≤ 1000 := by
      have := w.len
      show (Way (hb k) 257 b).length ≤ 1000
      omega
    have hc := chkI hN hk z2 z3 hr32 w
    rw [if_pos hroot] at hc
    have hco := chkI hN hk z2 z3 ho w
    rw [hroot] at hco
    -- who is found is who has the key
    have hF : (seq z.Key k = true ∧ M = [z]) ∨ (seq z.Key k = false ∧ M = []) := by
      rcases p.mid with h0 | ⟨y, h0, hy⟩
      · refine .inr ⟨Bool.eq_false_iff.2 fun q => ?_, h0⟩
        have := thereX p hnm (by rw [seq_iff.1 q])
        rw [h0] at this
        cases this
      · have hyL : y ∈ L := by rw [p.eq, h0]; simp
        have hyz : z = y := by rw [← hz]; exact near_hit hC (by rw [hLv]; exact hyL) hy
        subst hyz
        exact .inl ⟨seq_iff.2 (noCol (hI _ hyL) hkm hy), h0⟩
    have hx : z.Value.size + (⟨#[120]⟩ : ByteArray).size = z.Value.size + 1 := rfl
    have hvs : (z.Value ++ (⟨#[120]⟩ : ByteArray)).size = z.Value.size + 1 := ByteArray.size_append
    have hq : decide (z.Value.size + 1 ≤ 9223372036854775807) = true := decide_eq_true (by omega)
    have last : (bif decide (((z.Value.size + 1 : Nat) : Int) > (60:Int)) then some true else ob (impl_CheckKey.m N (rt 257 b) k (MapProof.mk (seq z.Key k) z.Key (z.Value ++ (⟨#[120]⟩ : ByteArray)) (Way (hb k) 257 b))) fun y11 => ob (spec_CheckKey.m N (rt 257 b) k (MapProof.mk (seq z.Key k) z.Key (z.Value ++ (⟨#[120]⟩ : ByteArray)) (Way (hb k) 257 b))) fun y12 => some (y11 == y12)) = some true := by
      by_cases hb1 : ((z.Value.size + 1 : Nat) : Int) > 60
      · rw [decide_eq_true hb1]; rfl
      · have hv : (z.Value ++ (⟨#[120]⟩ : ByteArray)).size ≤ 60 := by omega
        rw [decide_eq_false hb1, cond_false, chkI hN hk z2 hv hr32 w, chkS hN hk z2 hv hr32 w, ob_some, ob_some, beq_self_eq_true]
    have other : (∀ (f : Option Bool), f = some true → (bif !seq o (rt 257 b) then ob (impl_CheckKey.m N o k (MapProof.mk (seq z.Key k) z.Key z.Value (Way (hb k) 257 b))) fun y10 => bif y10 == (0:Int) then some false else f else f) = some true) := by
      intro f hf
      by_cases e : rt 257 b = o
      · rw [seq_iff.2 e.symm]; exact hf
      · rw [hco, if_neg e, ob_some, show seq o (rt 257 b) = false from Bool.eq_false_iff.2 fun q => e (seq_iff.1 q).symm]; exact hf
    rcases hF with ⟨f1, rfl⟩ | ⟨f1, rfl⟩
    · have hG : impl_MapGet.m N b k = some (z.Value, 0) := hG
      rw [f1] at hc hS
      simp only [rooted _ hR, hP.1, hP.2, hG, ob_some, bne_self_eq_false, cond_false, cond_true, sameX hN _ hS, Bool.not_true, hc, beq_self_eq_true, f1, seq_iff.2 rfl, ne_em z2.1, hx, hvs, hq] at last other ⊢
      exact other _ last
    · have hG : impl_MapGet.m N b k = some (ByteArray.empty, 5) := hG
      rw [f1] at hc hS
      simp only [rooted _ hR, hP.1, hP.2, hG, ob_some, bne_self_eq_false, cond_false, cond_true, sameX hN _ hS, Bool.not_true, hc, beq_self_eq_true, f1, show ((5:Int) == 0) = false from rfl, ne_em z2.1, hx, hvs, hq] at last other ⊢
      exact other _ last
end Mir.Y
