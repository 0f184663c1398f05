/- Pure laws: VerifySignature, its law. -/
import Derived.Test.YtohcahijaoemjaaFS6
namespace Mir.Y
set_option linter.unusedVariables false
set_option linter.unusedSimpArgs false
open Go
theorem digB_range (s : ByteArray) : ∀ j, 0 ≤ (digB s).getD j 0 ∧ (digB s).getD j 0 ≤ 15 := by
  intro j
  rw [List.getD_eq_getElem?_getD]
  cases hj : (digB s)[j]? with
  | none => exact ⟨Int.le_refl _, by decide⟩
  | some x =>
    have hm := List.mem_of_getElem? hj
    obtain ⟨s0, s1⟩ := sumI_le (hb s) 8
    simp only [digB, List.mem_append, List.mem_cons, List.not_mem_nil, or_false] at hm
    simp only [Option.getD_some]
    obtain ⟨n, hn⟩ := Int.eq_ofNat_of_zero_le s0
    rcases hm with hm | rfl | rfl
    · obtain ⟨i, hi, he⟩ := List.getElem_of_mem hm
      have := dgs_range (hb s) i
      rw [getD_at hi, he] at this
      exact this
    · have e : Int.tdiv (sumI (hb s) 8) 16 = ((n / 16 : Nat) : Int) := by rw [hn]; rfl
      rw [e, w_small (by omega) (by omega)]
      omega
    · have e : Int.tmod (sumI (hb s) 8) 16 = ((n % 16 : Nat) : Int) := by rw [hn]; rfl
      rw [e]
      omega
def dgN (s : ByteArray) (k : Nat) : Nat := ((digB s).getD k 0).toNat
theorem dgN_eq (s : ByteArray) (k : Nat) : (digB s).getD k 0 = ((dgN s k : Nat) : Int) ∧ dgN s k ≤ 15 := by
  have := digB_range s k
  unfold dgN
  omega
def endL (s : ByteArray) (p : List ByteArray) (n : Nat) : List ByteArray := (List.range n).map fun (k : Nat) => chn (bx p k) (dgN s k) (15 - dgN s k)
theorem endL_len (s : ByteArray) (p : List ByteArray) (n : Nat) : (endL s p n).length = n := by simp [endL]
theorem endL_snoc (s : ByteArray) (p : List ByteArray) (n : Nat) : endL s p n ++ [chn (bx p n) (dgN s n) (15 - dgN s n)] = endL s p (n + 1) := by simp [endL, List.range_succ]
theorem endL_size (s : ByteArray) (p : List ByteArray) (h : hshB p = true) (hl : p.length = 18) : ∀ x ∈ endL s p 18, x.size = 32 := by
  intro x hx
  simp only [endL, List.mem_map, List.mem_range] at hx
  obtain ⟨j, hj, rfl⟩ := hx
  exact chn_size (hsh_at h (by omega)) _ _
theorem hsh_mem {l : List ByteArray} (h : hshB l = true) : ∀ x ∈ l, x.size = 32 := by
  intro x hx
  obtain ⟨i, hi, rfl⟩ := List.getElem_of_mem hx
  have := hsh_at h hi
  rw [bx, getD_at hi] at this
  exact this
def sigRoot (s : ByteArray) (g : Signature) : ByteArray := upV (hb (catB (endL s g.Parts 18))) g.Index g.Path
theorem specRoot {N : Nat} (hN : Big N) (s : ByteArray) (g : Signature) (hs : s.size ≤ 2097152) (h1 : hshB g.Parts = true) (h2 : hshB g.Path = true) (hl : g.Parts.length = 18) (hp : g.Path.length ≤ 64) (hi0 : 0 ≤ g.Index) (hi3 : g.Index ≤ 3) :
    ∃ r, spec_l08Root.m N s g = some (r, decide (g.Path.length = 2)) ∧ (g.Path.length = 2 → r = sigRoot s g) := by
  obtain ⟨r, k1, k2⟩ := up4 hN (hb (catB (endL s g.Parts 18))) g.Index g.Path (hb_size _) hi0 hi3 hp (hsh_mem h2)
  refine ⟨r, ?_, k2⟩
  unfold spec_l08Root.m
  rw [specDigits hN s hs, ob_some]
  unfold spec_l08Root.lp4
  have hd := digB_length s
  exact miter_up (step := fun rec => spec_l08Root.step4 N s g rec) (n := 18) (st := fun j => ((j : Int), endL s g.Parts j, digB s)) (fun j hj rec => by
    obtain ⟨d1, d2⟩ := dgN_eq s j
    have e1 : w64 ((15:Int) - ((dgN s j : Nat) : Int)) = ((15 - dgN s j : Nat) : Int) := by rw [w_small (by omega) (by omega)]; omega
    simp only [spec_l08Root.step4, decide_eq_true (show (j : Int) < 18 by omega), nn_dec, cond_true, hl, hd, decide_eq_true (show (j : Int) < ((18 : Nat) : Int) by omega), Int.toNat_natCast, bxe, d1, e1, specChain hN (bx g.Parts j) (dgN s j) (15 - dgN s j) (hsh_at h1 (by omega)) d2 (by omega), ob_some]
    rw [room16 (by rw [endL_len]; simp; omega), cond_true, endL_snoc, w_up j 18 hj (by omega)]) (fun rec => by
    have he : spec_l08Ends.m N (endL s g.Parts 18) = some (hb (catB (endL s g.Parts 18))) := specEnds hN _ (endL_size s _ h1 hl) (by rw [endL_len]; omega)
    show ob (spec_l08Ends.m N (endL s g.Parts 18)) _ = _
    rw [he, ob_some, k1, ob_some]) 18 0 N (by omega) (by omega)
theorem implRoot {N : Nat} (hN : Big N) (s root : ByteArray) (g : Signature) (hs : s.size ≤ 2097152) (h1 : hshB g.Parts = true) (h2 : hshB g.Path = true) (hl : g.Parts.length = 18) (hp : g.Path.length ≤ 64) (hi0 : 0 ≤ g.Index) (hi3 : g.Index ≤ 3) :
    ∃ r, impl_Signature_leadsTo.m N g root s = some (seq r root, decide (g.Path.length = 2)) ∧ (g.Path.length = 2 → r = sigRoot s g) := by
  obtain ⟨r, k1, k2, k3⟩ := incRoot hN (hb (catB (endL s g.Parts 18))) g.Index g.Path (hb_size _) hi0 hi3 hp (hsh_mem h2)
  refine ⟨r.1, ?_, k3⟩
  unfold impl_Signature_leadsTo.m
  rw [implDigits hN s hs, ob_some]
  unfold impl_Signature_leadsTo.lp3
  have hd := digB_length s
  rw [hd]
  exact miter_up (step := fun rec => impl_Signature_leadsTo.step3 N g root s rec) (n := 18) (st := fun j => (((18 : Nat) : Int), (j : Int), endL s g.Parts j, digB s)) (fun j hj rec => by
    obtain ⟨d1, d2⟩ := dgN_eq s j
    have e1 : w64 ((15:Int) - ((dgN s j : Nat) : Int)) = ((15 - dgN s j : Nat) : Int) := by rw [w_small (by omega) (by omega)]; omega
    simp only [impl_Signature_leadsTo.step3, nn_dec, cond_true, hl, hd, decide_eq_true (show (j : Int) < ((18 : Nat) : Int) by omega), Int.toNat_natCast, bxe, d1, e1, implChain hN (bx g.Parts j) (dgN s j) (15 - dgN s j) (hsh_at h1 (by omega)) d2 (by omega), ob_some]
    rw [room16 (by rw [endL_len]; simp; omega), cond_true, endL_snoc, w_up j 18 hj (by omega)]) (fun rec => by
    have he : impl_endsLeaf.m N (endL s g.Parts 18) = some (hb (catB (endL s g.Parts 18))) := implEnds hN _ (endL_size s _ h1 hl) (by rw [endL_len]; omega)
    simp only [impl_Signature_leadsTo.step3, ge_dec, cond_false, he, ob_some, k1, k2]) 18 0 N (by omega) (by omega)
def verR (root s : ByteArray) (g : Signature) : Int :=
  bif decide ((root.size : Int) > 65536) || (decide ((s.size : Int) > 65536) || (decide ((g.Parts.length : Int) > 4096) || decide ((g.Path.length : Int) > 4096))) then 2
  else bif ((root.size : Int) != 32) || (!(!decide ((g.Parts.length : Int) > 64) && hshB g.Parts) || !(!decide ((g.Path.length : Int) > 64) && hshB g.Path)) then 1
  else bif !(inB g.Index 0 3) || ((g.Parts.length : Int) != 18) then 4
  else bif !decide (g.Path.length = 2) then 10
  else bif !seq (sigRoot s g) root then 12 else 0
theorem seq_swap (a b : ByteArray) : seq a b = seq b a := by
  unfold seq
  rw [Bool.eq_iff_iff]
  simp only [beq_iff_eq]
  exact eq_comm
theorem verCond {root s : ByteArray} {g : Signature} (c2 : decide ((s.size : Int) > 65536) = false) (c5 : (!decide ((g.Parts.length : Int) > 64) && hshB g.Parts) = true) (c6 : (!decide ((g.Path.length : Int) > 64) && hshB g.Path) = true) (c7 : inB g.Index 0 3 = true) (c8 : ((g.Parts.length : Int) != 18) = false) :
    s.size ≤ 2097152 ∧ hshB g.Parts = true ∧ hshB g.Path = true ∧ g.Parts.length = 18 ∧ g.Path.length ≤ 64 ∧ 0 ≤ g.Index ∧ g.Index ≤ 3 := by
  simp only [Bool.and_eq_true, Bool.not_eq_true', decide_eq_false_iff_not, bne_eq_false_iff_eq] at c2 c5 c6 c8
  obtain ⟨i1, i2⟩ := inB_iff.1 c7
  exact ⟨by omega, c5.2, c6.2, by omega, by omega, i1, i2⟩
theorem specVer {N : Nat} (hN : Big N) (root s : ByteArray) (g : Signature) (hl1 : g.Parts.length ≤ 1048576) (hl2 : g.Path.length ≤ 1048576) : spec_VerifySignature.m N root s g = some (verR root s g) := by
  unfold spec_VerifySignature.m verR spec_l08Index.m
  simp only [hashesS hN _ hl1, hashesS hN _ hl2, l01In, ob_some, cond_false]
  cases c1 : decide ((root.size : Int) > 65536) with
  | true => rfl
  | false =>
  cases c2 : decide ((s.size : Int) > 65536) with
  | true => rfl
  | false =>
  cases c3 : decide ((g.Parts.length : Int) > 4096) with
  | true => rfl
  | false =>
  cases c3' : decide ((g.Path.length : Int) > 4096) with
  | true => rfl
  | false =>
  cases c4 : (root.size : Int) != 32 with
  | true => rfl
  | false =>
  cases c5 : (!decide ((g.Parts.length : Int) > 64) && hshB g.Parts) with
  | false => rfl
  | true =>
  cases c6 : (!decide ((g.Path.length : Int) > 64) && hshB g.Path) with
  | false => rfl
  | true =>
  cases c7 : inB g.Index 0 3 with
  | false => rfl
  | true =>
  cases c8 : (g.Parts.length : Int) != 18 with
  | true => rfl
  | false =>
    obtain ⟨a1, a2, a3, a4, a5, a6, a7⟩ := verCond (root := root) c2 c5 c6 c7 c8
    obtain ⟨r, k1, k2⟩ := specRoot hN s g a1 a2 a3 a4 a5 a6 a7
    simp only [Bool.not_true, cond_false, Bool.or_false, k1, ob_some]
    by_cases h : g.Path.length = 2
    · simp only [h, decide_true, Bool.not_true, cond_false, k2 h]
      cases seq (sigRoot s g) root <;> rfl
    · simp only [h, decide_false, Bool.not_false, cond_true]
theorem implVer {N : Nat} (hN : Big N) (root s : ByteArray) (g : Signature) (hl1 : g.Parts.length ≤ 1048576) (hl2 : g.Path.length ≤ 1048576) : impl_VerifySignature.m N root s g = some (verR root s g) := by
  unfold impl_VerifySignature.m verR impl_isList_string.m
  have t2 : impl_isText.m N [root, s] = some (!decide ((root.size : Int) > 65536) && (!decide ((s.size : Int) > 65536) && true)) := isText hN [root, s] (by simp)
  have e1 : decide ((g.Parts.length : Int) ≤ 4096) = !decide ((g.Parts.length : Int) > 4096) := by rw [Bool.eq_iff_iff]; simp
  have e2 : decide ((g.Path.length : Int) ≤ 4096) = !decide ((g.Path.length : Int) > 4096) := by rw [Bool.eq_iff_iff]; simp
  have e3 : decide ((if (g.Parts.length : Int) < (g.Path.length : Int) then (g.Path.length : Int) else (g.Parts.length : Int)) > 64) = (decide ((g.Parts.length : Int) > 64) || decide ((g.Path.length : Int) > 64)) := by
    rw [Bool.eq_iff_iff]
    simp only [decide_eq_true_eq, Bool.or_eq_true]
    split <;> omega
  simp only [t2, isHash1 hN, isHash hN _ hl1, isHash hN _ hl2, within, ob_some, cond_false, e1, e2, e3, Bool.and_true]
  cases c1 : decide ((root.size : Int) > 65536) with
  | true => rfl
  | false =>
  cases c2 : decide ((s.size : Int) > 65536) with
  | true => rfl
  | false =>
  cases c3 : decide ((g.Parts.length : Int) > 4096) with
  | true => rfl
  | false =>
  cases c3' : decide ((g.Path.length : Int) > 4096) with
  | true => rfl
  | false =>
  cases c4 : (root.size : Int) != 32 with
  | true => rfl
  | false =>
  cases d5 : decide ((g.Parts.length : Int) > 64) with
  | true => cases decide ((g.Path.length : Int) > 64) <;> cases hshB g.Path <;> rfl
  | false =>
  cases d6 : decide ((g.Path.length : Int) > 64) with
  | true => cases hshB g.Parts <;> rfl
  | false =>
  cases h5 : hshB g.Parts with
  | false => cases hshB g.Path <;> rfl
  | true =>
  cases h6 : hshB g.Path with
  | false => rfl
  | true =>
  cases c7 : inB g.Index 0 3 with
  | false => rfl
  | true =>
  cases c8 : (g.Parts.length : Int) != 18 with
  | true => rfl
  | false =>
    obtain ⟨a1, a2, a3, a4, a5, a6, a7⟩ := verCond (root := root) c2 (by rw [d5, h5]; rfl) (by rw [d6, h6]; rfl) c7 c8
    obtain ⟨r, k1, k2⟩ := implRoot hN s root g a1 a2 a3 a4 a5 a6 a7
    simp only [Bool.not_true, Bool.not_false, cond_false, Bool.or_false, Bool.false_or, Bool.and_true, k1, ob_some]
    by_cases h : g.Path.length = 2
    · simp only [h, decide_true, Bool.not_true, cond_false, k2 h]
      cases seq (sigRoot s g) root <;> rfl
    · simp only [h, decide_false, Bool.not_false, cond_true]
theorem wfSig {g : Signature} (h : ∃ n, WfE E (WfA E n) (.st 48) g) : (g.Parts.length ≤ maxLen ∧ ∀ x ∈ g.Parts, x.size ≤ maxLen) ∧ (g.Path.length ≤ maxLen ∧ ∀ x ∈ g.Path, x.size ≤ maxLen) := by
  obtain ⟨n, h⟩ := h
  cases n with
  | zero => exact h.2.1.elim
  | succ n =>
    obtain ⟨_, h1, h2, _⟩ := h
    have ht : ∀ {s : ByteArray}, WfA E n .str s → s.size ≤ maxLen := fun h => by cases n <;> exact h
    exact ⟨⟨h1.1, fun x hx => ht (h1.2 x hx)⟩, ⟨h2.1, fun x hx => ht (h2.2 x hx)⟩⟩
end Mir.Y
