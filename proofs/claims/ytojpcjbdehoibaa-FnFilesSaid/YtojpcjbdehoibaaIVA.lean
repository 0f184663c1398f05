/- Pure laws: files by their names. -/
import Derived.Test.YtojpcjbdehoibaaISA
import Derived.Laws.Strings
namespace Mir.Y
set_option linter.unusedVariables false
set_option linter.unusedSimpArgs false
open Go
theorem miterS {α R : Type} (g : (α → Option R) → α → Option R) (K : Nat) (s : α) : miter g (K + 1) s = g (miter g K) s := rfl
/-! ### The order of names -/
theorem bl_irrefl : ∀ a : List UInt8, Op.bytesLess a a = false
  | [] => rfl
  | x :: a => by simp [Op.bytesLess, bl_irrefl a]
theorem bl_cmp : ∀ a b : List UInt8, (Op.bytesLess a b = true ∧ Go.Lib.compareBytes a b = -1) ∨ (a = b ∧ Go.Lib.compareBytes a b = 0) ∨ (Op.bytesLess b a = true ∧ Go.Lib.compareBytes a b = 1)
  | [], [] => .inr (.inl ⟨rfl, rfl⟩)
  | [], _ :: _ => .inl ⟨rfl, rfl⟩
  | _ :: _, [] => .inr (.inr ⟨rfl, rfl⟩)
  | x :: a, y :: b => by
    by_cases h1 : x < y
    · exact .inl ⟨by simp [Op.bytesLess, h1], by simp [Go.Lib.compareBytes, h1]⟩
    · by_cases h2 : y < x
      · exact .inr (.inr ⟨by simp [Op.bytesLess, h2], by simp [Go.Lib.compareBytes, h1, h2]⟩)
      · have e : x = y := by
          have h1 : ¬ x.toNat < y.toNat := h1
          have h2 : ¬ y.toNat < x.toNat := h2
          exact UInt8.toNat_inj.1 (by omega)
        subst e
        rcases bl_cmp a b with ⟨k1, k2⟩ | ⟨k1, k2⟩ | ⟨k1, k2⟩
        · exact .inl ⟨by simp [Op.bytesLess, k1], by simp [Go.Lib.compareBytes, k2]⟩
        · exact .inr (.inl ⟨by rw [k1], by simp [Go.Lib.compareBytes, k2]⟩)
        · exact .inr (.inr ⟨by simp [Op.bytesLess, k1], by simp [Go.Lib.compareBytes, k2]⟩)
theorem bl_trans : ∀ {a b c : List UInt8}, Op.bytesLess a b = true → Op.bytesLess b c = true → Op.bytesLess a c = true
  | _, [], _, h, _ => by cases h_ : ‹List UInt8› <;> simp [Op.bytesLess] at h
  | _, _ :: _, [], _, h => by simp [Op.bytesLess] at h
  | [], _ :: _, _ :: _, _, _ => rfl
  | x :: a, y :: b, z :: c, h, k => by
    simp only [Op.bytesLess, Bool.or_eq_true, Bool.and_eq_true, decide_eq_true_eq, beq_iff_eq] at h k ⊢
    rcases h with h | ⟨rfl, h⟩
    · rcases k with k | ⟨rfl, k⟩
      · left
        have h : x.toNat < y.toNat := h
        have k : y.toNat < z.toNat := k
        show x.toNat < z.toNat
        omega
      · exact .inl h
    · rcases k with k | ⟨rfl, k⟩
      · exact .inl k
      · exact .inr ⟨rfl, bl_trans h k⟩
theorem slt_d (a b : ByteArray) : slt a b = Op.bytesLess a.data.toList b.data.toList := by
  unfold slt
  rw [ByteArray.toList_eq a, ByteArray.toList_eq b]
theorem slt_irr (a : ByteArray) : slt a a = false := by rw [slt_d]; exact bl_irrefl _
theorem slt_trans {a b c : ByteArray} (h : slt a b = true) (k : slt b c = true) : slt a c = true := by
  rw [slt_d] at h k ⊢; exact bl_trans h k
theorem slt_asym {a b : ByteArray} (h : slt a b = true) : slt b a = false := by
  cases k : slt b a with
  | false => rfl
  | true => have := slt_trans h k; rw [slt_irr] at this; cases this
theorem slt_ne {a b : ByteArray} (h : slt a b = true) : a ≠ b := fun e => by rw [e, slt_irr] at h; cases h
theorem ba_ext {a b : ByteArray} (h : a.data.toList = b.data.toList) : a = b := by
  cases a; cases b
  exact congrArg _ (Array.toList_inj.1 h)
theorem cmpN (a b : ByteArray) : (slt a b = true ∧ Go.Lib.compareBytes a.data.toList b.data.toList = -1) ∨ (a = b ∧ Go.Lib.compareBytes a.data.toList b.data.toList = 0) ∨ (slt b a = true ∧ Go.Lib.compareBytes a.data.toList b.data.toList = 1) := by
  rw [slt_d, slt_d]
  rcases bl_cmp a.data.toList b.data.toList with h | ⟨h, k⟩ | h
  · exact .inl h
  · exact .inr (.inl ⟨ba_ext h, k⟩)
  · exact .inr (.inr h)
theorem seq_t {a b : ByteArray} : seq a b = true ↔ a = b := by
  unfold seq
  rw [ByteArray.toList_eq a, ByteArray.toList_eq b, beq_iff_eq]
  exact ⟨ba_ext, fun h => by rw [h]⟩
theorem seq_f {a b : ByteArray} (h : a ≠ b) : seq a b = false := by
  cases k : seq a b with
  | false => rfl
  | true => exact absurd (seq_t.1 k) h
/-! ### Where a name stands -/
def Fs (l : List File) : Prop := l.Pairwise fun x y => slt x.Name y.Name = true
structure Fp (L : List File) (n : ByteArray) (A M B : List File) : Prop where
  eq : L = A ++ (M ++ B)
  lo : ∀ a ∈ A, slt a.Name n = true
  hi : ∀ b ∈ B, slt n b.Name = true
  mid : M = [] ∨ ∃ z, M = [z] ∧ z.Name = n
theorem fp_of (n : ByteArray) : ∀ {L : List File}, Fs L → ∃ A M B, Fp L n A M B
  | [], _ => ⟨[], [], [], rfl, fun a ha => (by cases ha), fun a ha => (by cases ha), .inl rfl⟩
  | a :: r, hs => by
    obtain ⟨h1, h2⟩ := List.pairwise_cons.1 hs
    rcases cmpN a.Name n with ⟨k, _⟩ | ⟨k, _⟩ | ⟨k, _⟩
    · obtain ⟨A, M, B, p⟩ := fp_of n (L := r) h2
      refine ⟨a :: A, M, B, by rw [p.eq]; rfl, fun x hx => ?_, p.hi, p.mid⟩
      rcases List.mem_cons.1 hx with rfl | hx
      · exact k
      · exact p.lo x hx
    · exact ⟨[], [a], r, rfl, fun a ha => (by cases ha), fun b hb' => by rw [← k]; exact h1 b hb', .inr ⟨a, rfl, k⟩⟩
    · refine ⟨[], [], a :: r, rfl, fun a ha => (by cases ha), fun b hb' => ?_, .inl rfl⟩
      rcases List.mem_cons.1 hb' with rfl | hb'
      · exact k
      · exact slt_trans k (h1 b hb')
variable {L A M B : List File} {n : ByteArray}
theorem Fp.len (p : Fp L n A M B) : L.length = A.length + M.length + B.length := by
  rw [p.eq, List.length_append, List.length_append]; omega
theorem Fp.at (p : Fp L n A M B) {j : Nat} (hj : j < L.length) : (j < A.length → slt L[j].Name n = true) ∧ (A.length ≤ j → L[j].Name = n ∨ slt n L[j].Name = true) := by
  have e : L[j] = (A ++ (M ++ B))[j]'(by rw [← p.eq]; exact hj) := by congr 1; exact p.eq
  constructor
  · intro h1
    rw [e, List.getElem_append_left h1]
    exact p.lo _ (List.getElem_mem _)
  · intro h1
    rw [e, List.getElem_append_right h1]
    have hm : (M ++ B)[j - A.length]'(by have := p.len; rw [List.length_append]; omega) ∈ M ++ B := List.getElem_mem _
    rcases List.mem_append.1 hm with hm | hm
    · rcases p.mid with rfl | ⟨z, rfl, hz⟩
      · cases hm
      · rw [List.mem_singleton] at hm; rw [hm]; exact .inl hz
    · exact .inr (p.hi _ hm)
theorem Fp.hit {z : File} (p : Fp L n A [z] B) : A.length < L.length ∧ L.getD A.length File.dz = z := by
  have hl := p.len
  have h : A.length < L.length := by simp only [List.length_cons, List.length_nil] at hl; omega
  refine ⟨h, ?_⟩
  rw [getD_at h]
  have e : L[A.length] = (A ++ ([z] ++ B))[A.length]'(by rw [← p.eq]; exact h) := by congr 1; exact p.eq
  rw [e, List.getElem_append_right (Nat.le_refl _)]; simp
theorem Fp.miss (p : Fp L n A [] B) : ∀ j, (hj : j < L.length) → L[j].Name ≠ n := by
  intro j hj
  have e : L[j] = (A ++ ([] ++ B))[j]'(by rw [← p.eq]; exact hj) := by congr 1; exact p.eq
  rw [e]
  have hm : (A ++ ([] ++ B))[j]'(by rw [← p.eq]; exact hj) ∈ A ++ ([] ++ B) := List.getElem_mem _
  rcases List.mem_append.1 hm with hm | hm
  · exact slt_ne (p.lo _ hm)
  · exact (slt_ne (p.hi _ (by simpa using hm))).symm
theorem Fp.set {z : File} (p : Fp L n A [z] B) (f : File) : L.set A.length f = A ++ f :: B := by
  rw [p.eq, List.set_append_right _ _ (Nat.le_refl _)]; simp
theorem Fs.put (hs : Fs L) (p : Fp L n A M B) {f : File} (hf : f.Name = n) : Fs (A ++ f :: B) := by
  have hs : (A ++ (M ++ B)).Pairwise fun x y => slt x.Name y.Name = true := by rw [← p.eq]; exact hs
  obtain ⟨s1, s2, s3⟩ := List.pairwise_append.1 hs
  obtain ⟨_, s4, _⟩ := List.pairwise_append.1 s2
  refine List.pairwise_append.2 ⟨s1, List.pairwise_cons.2 ⟨fun b hb' => by rw [hf]; exact p.hi b hb', s4⟩, fun a ha b hb' => ?_⟩
  rcases List.mem_cons.1 hb' with rfl | hb'
  · rw [hf]; exact p.lo a ha
  · exact s3 a ha b (List.mem_append_right _ hb')
theorem Fs.drop (hs : Fs L) (p : Fp L n A M B) : Fs (A ++ B) := by
  have hs : (A ++ (M ++ B)).Pairwise fun x y => slt x.Name y.Name = true := by rw [← p.eq]; exact hs
  obtain ⟨s1, s2, s3⟩ := List.pairwise_append.1 hs
  obtain ⟨_, s4, _⟩ := List.pairwise_append.1 s2
  exact List.pairwise_append.2 ⟨s1, s4, fun a ha c hc => s3 a ha c (List.mem_append_right _ hc)⟩
/-! ### Searches -/
theorem wu64_sm {x : Int} (h0 : 0 ≤ x) (h1 : x < 18446744073709551616) : wu64 x = x := by
  simp only [wu64, IntKind.wrap, IntKind.bits, IntKind.signed]
  simp
  omega
theorem midF (i j : Nat) (h : i + j ≤ 1048576) : w64 (Int.fdiv (wu64 (w64 ((i : Int) + (j : Int)))) (2 ^ (min (Int.toNat (1:Int)) 64))) = (((i + j) / 2 : Nat) : Int) := by
  have e1 : w64 ((i : Int) + (j : Int)) = ((i + j : Nat) : Int) := by rw [w_small (by omega) (by omega)]; omega
  have e2 : Int.fdiv ((i + j : Nat) : Int) (2 ^ (min (Int.toNat (1:Int)) 64)) = (((i + j) / 2 : Nat) : Int) := by
    show Int.fdiv ((i + j : Nat) : Int) ((2 : Nat) : Int) = _
    exact (Int.ofNat_fdiv (i + j) 2).symm
  rw [e1, wu64_sm (by omega) (by omega), e2, w_small (by omega) (by omega)]
theorem fileAt1 (N : Nat) (x : File) (n : ByteArray) : impl_Disk_fileAt_1.m N x n = some (Go.Lib.compareBytes x.Name.data.toList n.data.toList) := rfl
theorem fileAtP {N : Nat} (hN : Big N) (R : Int) (p : Fp L n A M B) (hl : L.length ≤ 1000) : impl_Disk_fileAt.m N (Disk.mk R L) n = some ((A.length : Int), !M.isEmpty) := by
  unfold impl_Disk_fileAt.m slices_BinarySearchFunc_impl_File_impl_File_string__impl_Disk_fileAt_1.m slices_BinarySearchFunc_impl_File_impl_File_string__impl_Disk_fileAt_1.lp3
  have hlen := p.len
  have main : miter (fun rec => slices_BinarySearchFunc_impl_File_impl_File_string__impl_Disk_fileAt_1.step3 N L n rec) N ((L.length : Int), 0, (L.length : Int)) = some ((A.length : Int), !M.isEmpty) := by
    refine miter_all (p := fun r => r = some ((A.length : Int), !M.isEmpty)) (fun v : Int × Int × Int => (v.2.2 - v.2.1).toNat) (fun v => ∃ i j : Nat, v = ((L.length : Int), (i : Int), (j : Int)) ∧ i ≤ A.length ∧ A.length ≤ j ∧ j ≤ L.length) ?_ N _ ⟨0, L.length, rfl, Nat.zero_le _, by omega, Nat.le_refl _⟩ (by simp; omega)
    rintro v ⟨i, j, rfl, i1, i2, i3⟩ rec hrec
    simp only [slices_BinarySearchFunc_impl_File_impl_File_string__impl_Disk_fileAt_1.step3]
    by_cases hij : i < j
    · have hm : (i + j) / 2 < L.length := by omega
      rw [decide_eq_true (show (i : Int) < (j : Int) by omega), cond_true, midF i j (by omega), nn_dec, lt_dec hm, Int.toNat_natCast, getD_at hm, fileAt1]
      simp only [show (!decide ((1:Int) < 0)) = true from rfl, cond_true, ob_some]
      obtain ⟨q1, q2⟩ := p.at hm
      rcases cmpN (L[(i + j) / 2]).Name n with ⟨k, e⟩ | ⟨k, e⟩ | ⟨k, e⟩
      · rw [e, show decide ((-1:Int) < 0) = true from rfl, cond_true]
        have hlt : (i + j) / 2 < A.length := by
          refine Nat.lt_of_not_le fun hge => ?_
          rcases q2 hge with h1 | h1
          · rw [h1, slt_irr] at k; cases k
          · rw [slt_asym h1] at k; cases k
        rw [w_up _ 1048576 (by omega) (by omega)]
        exact hrec _ ⟨(i + j) / 2 + 1, j, rfl, by omega, i2, i3⟩ (by simp only []; omega)
      all_goals
        have hge : A.length ≤ (i + j) / 2 := by
          refine Nat.le_of_not_lt fun hlt => ?_
          have := q1 hlt
          first
            | (rw [k, slt_irr] at this; cases this)
            | (rw [slt_asym k] at this; cases this)
        rw [e]
        first
          | rw [show decide ((0:Int) < 0) = false from rfl, cond_false]
          | rw [show decide ((1:Int) < 0) = false from rfl, cond_false]
        exact hrec _ ⟨i, (i + j) / 2, rfl, i1, hge, by omega⟩ (by simp only []; omega)
    · rw [decide_eq_false (show ¬ ((i : Int) < (j : Int)) by omega), cond_false]
      have hi : i = A.length := by omega
      subst hi
      by_cases hL : A.length < L.length
      · rw [lt_dec hL, cond_true, nn_dec, Int.toNat_natCast, getD_at hL, fileAt1]
        simp only [cond_true, ob_some]
        congr 2
        rcases p.mid with rfl | ⟨z, rfl, hz⟩
        · have hx := p.miss A.length hL
          have := (p.at hL).2 (Nat.le_refl _)
          rcases cmpN (L[A.length]).Name n with ⟨k, e⟩ | ⟨k, e⟩ | ⟨k, e⟩
          · rw [e]; rfl
          · exact absurd k hx
          · rw [e]; rfl
        · have e2 := p.hit.2
          rw [getD_at hL] at e2
          rw [e2, hz]
          rcases cmpN n n with ⟨k, e⟩ | ⟨k, e⟩ | ⟨k, e⟩
          · rw [slt_irr] at k; cases k
          · rw [e]; rfl
          · rw [slt_irr] at k; cases k
      · rw [decide_eq_false (show ¬ ((A.length : Int) < (L.length : Int)) by omega), cond_false]
        have : M = [] := List.eq_nil_of_length_eq_zero (by omega)
        rw [this]; rfl
  show ob (miter (fun rec => slices_BinarySearchFunc_impl_File_impl_File_string__impl_Disk_fileAt_1.step3 N L n rec) N ((L.length : Int), 0, (L.length : Int))) _ = _
  rw [main, ob_some]
theorem findP {N : Nat} (hN : Big N) (R : Int) (p : Fp L n A M B) (hl : L.length ≤ 1000) : spec_l03Find.m N (Disk.mk R L) n = some (if M = [] then -1 else (A.length : Int)) := by
  unfold spec_l03Find.m spec_l03Find.lp2
  have hlen := p.len
  have stp : ∀ (i : Nat) (hi : i < L.length) (rec : Int → Option Int), spec_l03Find.step2 N (Disk.mk R L) n rec (i : Int) = bif seq (L[i]).Name n then some (i : Int) else rec ((i + 1 : Nat) : Int) := by
    intro i hi rec
    simp only [spec_l03Find.step2, lt_dec hi, nn_dec, cond_true, Int.toNat_natCast, getD_at hi]
    rw [w_up i _ hi (by omega)]
  rcases p.mid with rfl | ⟨z, rfl, hz⟩
  · rw [if_pos rfl]
    exact miter_up (step := fun rec => spec_l03Find.step2 N (Disk.mk R L) n rec) (n := L.length) (st := fun i => (i : Int)) (fun i hi rec => by
      show spec_l03Find.step2 N (Disk.mk R L) n rec (i : Int) = _
      rw [stp i hi, seq_f (p.miss i hi), cond_false]) (fun rec => by simp [spec_l03Find.step2]) L.length 0 N (by omega) (by omega)
  · rw [if_neg (by simp)]
    obtain ⟨h1, h2⟩ := p.hit
    exact miter_up (step := fun rec => spec_l03Find.step2 N (Disk.mk R L) n rec) (n := A.length) (st := fun i => (i : Int)) (fun i hi rec => by
      have hi' : i < L.length := by omega
      show spec_l03Find.step2 N (Disk.mk R L) n rec (i : Int) = _
      rw [stp i hi', seq_f (slt_ne ((p.at hi').1 hi)), cond_false]) (fun rec => by
      show spec_l03Find.step2 N (Disk.mk R L) n rec (A.length : Int) = _
      rw [getD_at h1] at h2
      rw [stp _ h1, h2, hz, seq_t.2 rfl]; rfl) A.length 0 N (by omega) (by omega)
theorem putP {N : Nat} (hN : Big N) (R : Int) {f : File} (p : Fp L f.Name A M B) (hl : L.length ≤ 1000) : spec_l03Put.m N (Disk.mk R L) f = some (Disk.mk R (A ++ f :: B)) := by
  unfold spec_l03Put.m spec_l03Put.lp4
  have hlen := p.len
  have rm : ∀ (o : List File) (x : File), o.length ≤ 2000 → room (o.length + ([x] : List File).length) 40 = true := fun o x h => roomB (by simp; omega) (by omega)
  -- behind its place
  have s1 : ∀ (m i K : Nat) (o : List File), i + m = L.length → m < K → o.length ≤ i + 1 → (∀ j, (hj : j < L.length) → i ≤ j → L[j].Name ≠ f.Name) → miter (fun rec => spec_l03Put.step4 N (Disk.mk R L) f rec) K (.s1 (i : Int) 0 o) = some (Disk.mk R (o ++ L.drop i)) := by
    intro m
    induction m with
    | zero =>
      intro i K o hi hK ho hne
      obtain ⟨K, rfl⟩ : ∃ q, K = q + 1 := ⟨K - 1, by omega⟩
      rw [miterS, List.drop_eq_nil_of_le (by omega), List.append_nil]
      simp only [spec_l03Put.step4, decide_eq_false (show ¬ (i : Int) < (L.length : Int) by omega), cond_false]
    | succ m ih =>
      intro i K o hi hK ho hne
      obtain ⟨K, rfl⟩ : ∃ q, K = q + 1 := ⟨K - 1, by omega⟩
      have hi' : i < L.length := by omega
      rw [miterS]
      simp only [spec_l03Put.step4, lt_dec hi', nn_dec, cond_true, Int.toNat_natCast, getD_at hi', seq_f (hne i hi' (Nat.le_refl _)), Bool.not_false, rm o _ (by omega), w_up i _ hi' (show L.length ≤ 1048576 by omega)]
      rw [ih (i + 1) K _ (by omega) (by omega) (by simp; omega) (fun j hj h => hne j hj (by omega)), List.drop_eq_getElem_cons hi']
      simp
  -- at its place
  have at_ : ∀ (K : Nat), L.length - A.length + 1 < K → miter (fun rec => spec_l03Put.step4 N (Disk.mk R L) f rec) K (.s0 (A.length : Int) 0 A) = some (Disk.mk R (A ++ f :: B)) := by
    intro K hK
    obtain ⟨K, rfl⟩ : ∃ q, K = q + 1 := ⟨K - 1, by omega⟩
    rw [miterS]
    by_cases hL : A.length < L.length
    · obtain ⟨q1, q2⟩ := p.at hL
      have behind : ∀ j, (hj : j < L.length) → A.length + M.length ≤ j → L[j].Name ≠ f.Name := by
        intro j hj h
        have e : L[j] = (A ++ (M ++ B))[j]'(by rw [← p.eq]; exact hj) := by congr 1; exact p.eq
        rw [e, List.getElem_append_right (by omega), List.getElem_append_right (by omega)]
        exact (slt_ne (p.hi _ (List.getElem_mem _))).symm
      have hns : slt L[A.length].Name f.Name = false := by
        rcases q2 (Nat.le_refl _) with h | h
        · rw [h]; exact slt_irr _
        · exact slt_asym h
      simp only [spec_l03Put.step4, lt_dec hL, nn_dec, cond_true, Int.toNat_natCast, getD_at hL, hns, Bool.not_false, rm A _ (by omega), w_up _ _ hL (show L.length ≤ 1048576 by omega)]
      rcases p.mid with rfl | ⟨z, rfl, hz⟩
      · have hne := p.miss A.length hL
        rw [seq_f hne, Bool.not_false, cond_true, rm (A ++ [f]) _ (by simp; omega), cond_true, s1 (L.length - (A.length + 1)) (A.length + 1) K _ (by omega) (by omega) (by simp) (fun j hj h => behind j hj (by simp; omega))]
        have hB : L.drop A.length = B := by rw [p.eq, List.drop_left]; rfl
        rw [List.drop_eq_getElem_cons hL] at hB
        rw [← hB]; simp
      · have e2 := p.hit.2
        rw [getD_at hL] at e2
        rw [e2, hz, seq_t.2 rfl, Bool.not_true, cond_false, s1 (L.length - (A.length + 1)) (A.length + 1) K _ (by omega) (by omega) (by simp) (fun j hj h => behind j hj (by simp; omega))]
        have hB : L.drop (A.length + 1) = B := by rw [p.eq, ← List.drop_drop, List.drop_left]; rfl
        rw [hB]; simp
    · have hM : M = [] := List.eq_nil_of_length_eq_zero (by omega)
      have hB : B = [] := List.eq_nil_of_length_eq_zero (by omega)
      simp only [spec_l03Put.step4, decide_eq_false (show ¬ (A.length : Int) < (L.length : Int) by omega), cond_false, rm A _ (by omega), cond_true]
      rw [hB]
  refine (show miter (fun rec => spec_l03Put.step4 N (Disk.mk R L) f rec) N (.s0 0 0 []) = _ from ?_)
  have go : ∀ (m i K : Nat), i + m = A.length → L.length - A.length + 1 + m < K → miter (fun rec => spec_l03Put.step4 N (Disk.mk R L) f rec) K (.s0 (i : Int) 0 (A.take i)) = some (Disk.mk R (A ++ f :: B)) := by
    intro m
    induction m with
    | zero =>
      intro i K hi hK
      obtain rfl : i = A.length := by omega
      rw [List.take_length]
      exact at_ K (by omega)
    | succ m ih =>
      intro i K hi hK
      obtain ⟨K, rfl⟩ : ∃ q, K = q + 1 := ⟨K - 1, by omega⟩
      have hi' : i < L.length := by omega
      have hiA : i < A.length := by omega
      have hs := (p.at hi').1 hiA
      have ht : A.take (i + 1) = A.take i ++ [L[i]] := by
        have e : L[i] = A[i] := by
          have e : L[i] = (A ++ (M ++ B))[i]'(by rw [← p.eq]; exact hi') := by congr 1; exact p.eq
          rw [e, List.getElem_append_left hiA]
        rw [List.take_add_one, List.getElem?_eq_getElem hiA, e]; rfl
      rw [miterS]
      simp only [spec_l03Put.step4, lt_dec hi', nn_dec, cond_true, Int.toNat_natCast, getD_at hi', hs, Bool.not_true, cond_false, seq_f (slt_ne hs), Bool.not_false, rm (A.take i) _ (by rw [List.length_take]; omega), w_up i _ hi' (show L.length ≤ 1048576 by omega)]
      rw [← ht]
      exact ih (i + 1) K (by omega) (by omega)
  exact go A.length 0 N (by omega) (by omega)
end Mir.Y
