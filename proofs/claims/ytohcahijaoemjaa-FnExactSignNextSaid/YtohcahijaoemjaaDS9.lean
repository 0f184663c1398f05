/- Pure laws: SignNext. -/
import Derived.Test.YtohcahijaoemjaaDS8
namespace Mir.Y
set_option linter.unusedVariables false
set_option linter.unusedSimpArgs false
open Go
theorem toBoolS {N : Nat} (hN : Big N) (a : List Bool) (h : a.length ≤ 1048576) : laws_toBoolS.m N a = some a := by
  unfold laws_toBoolS.m laws_toBoolS.lp3
  simp only [Int.toNat_natCast, roomB h (by omega : 1 ≤ 1024), Int.natCast_nonneg, decide_true, cond_true]
  exact loop_fill (fun i hi v hv rec => by
    simp only [laws_toBoolS.step3, lt_dec hi, nn_dec, hv, cond_true, Int.toNat_natCast, getD_at hi]
    rw [w_up i _ hi h]) (fun rec => by simp [laws_toBoolS.step3]) (by omega)
theorem eqBoolS {N : Nat} (hN : Big N) (a : List Bool) (h : a.length ≤ 1048576) : laws_eqBoolS.m N a a = some true := by
  unfold laws_eqBoolS.m laws_eqBoolS.lp4
  simp only [bne_self_eq_false, cond_false]
  exact miter_up (n := a.length) (st := fun i => (i : Int)) (fun i hi rec => by
    simp only [laws_eqBoolS.step4, lt_dec hi, nn_dec, cond_true, Int.toNat_natCast, beq_self_eq_true, Bool.not_true, cond_false]
    rw [w_up i _ hi h]) (fun rec => by simp [laws_eqBoolS.step4]) a.length 0 N (by omega) (by omega)
def fBool (c : Int) (_ : Bool) : Int × Bool := (w64 (c + 1), Int.tmod c 3 == 0)
theorem fBool_count (c : Int) (x : Bool) (h0 : 0 ≤ c) (h1 : c ≤ 8388608) : (fBool c x).1 = c + 1 := w_small (by omega) (by omega)
theorem markBoolS {N : Nat} (hN : Big N) (a : List Bool) (c : Int) (h : a.length ≤ 1048576) : laws_markBoolS.m N a c = some (marks fBool c a) := by
  unfold laws_markBoolS.m laws_markBoolS.lp2
  exact loop_mark (f := fBool) (fun i hi v hv rec => by
    simp only [laws_markBoolS.step2, hv, lt_dec hi, nn_dec, cond_true, Int.toNat_natCast, show (!decide ((3:Int) = 0)) = true from rfl]
    rw [w_up i _ hi h]; rfl) (fun rec => by simp [laws_markBoolS.step2, marks_length]) (by omega)
theorem heldBoolS {N : Nat} (hN : Big N) (a : List Bool) (c : Int) (h : a.length ≤ 1048576) : laws_heldBoolS.m N (marks fBool c a).2 c = some (marks fBool c a).1 := by
  unfold laws_heldBoolS.m laws_heldBoolS.lp2
  refine loop_held (f := fBool) (a := a) (fun i hi rec hg => ?_) (fun rec => by simp [laws_heldBoolS.step2, marks_length]) (by omega)
  have hl : (marks fBool c a).2.length = a.length := marks_length
  simp only [laws_heldBoolS.step2, hl, lt_dec hi, nn_dec, cond_true, Int.toNat_natCast, List.getD_eq_getElem?_getD, hg, Option.getD_some, show (!decide ((3:Int) = 0)) = true from rfl]
  simp only [fBool, beq_self_eq_true, Bool.not_true, cond_false]
  rw [w_up i _ hi h]
theorem eqSgn {N : Nat} (hN : Big N) (g : Signer) (h : g.Used.length ≤ 1048576) : laws_eqSigner.m N g g = some true := by
  unfold laws_eqSigner.m
  simp [seq_self, eqBoolS hN _ h]
theorem toSgn {N : Nat} (hN : Big N) (g : Signer) (h : g.Used.length ≤ 1048576) : laws_toSigner.m N g = some g := by
  unfold laws_toSigner.m
  rw [toBoolS hN _ h]; rfl
theorem markSgn {N : Nat} (hN : Big N) (g : Signer) (h : g.Used.length ≤ 1048576) : ∃ k y, laws_markSigner.m N g 1 = some (k, y) ∧ laws_heldSigner.m N ⟨g.Seed, y.Used⟩ 1 = some k ∧ 1 ≤ k ∧ k ≤ 1048577 := by
  have c1 : (marks fBool 1 g.Used).1 = 1 + g.Used.length := by rw [marks_count fBool_count (by omega) (by omega) (by omega) (by omega)]; omega
  refine ⟨(marks fBool 1 g.Used).1, ⟨g.Seed, (marks fBool 1 g.Used).2⟩, ?_, ?_, by omega, by omega⟩
  · unfold laws_markSigner.m
    rw [markBoolS hN _ _ h]; rfl
  · unfold laws_heldSigner.m
    rw [heldBoolS hN _ _ h, ob_some, decide_eq_false (show ¬ (marks fBool 1 g.Used).1 < 0 by omega), cond_false]
theorem szSgn {N : Nat} (g : Signer) (h1 : g.Seed.size ≤ maxLen) (h2 : g.Used.length ≤ maxLen) : ∃ y : Int, laws_szSigner.m N g 1048576 = some y ∧ (0 ≤ y → g.Used.length ≤ 1048576) := by
  unfold laws_szSigner.m laws_szBoolS.m
  rw [w_sub (by omega) (by omega) h1]
  by_cases ha : 1048576 - (g.Seed.size : Int) < 0
  · rw [decide_eq_true ha]; exact ⟨-1, rfl, fun h => by omega⟩
  · rw [decide_eq_false ha, cond_false, w_sub (by omega) (by omega) h2]
    by_cases hb' : 1048576 - (g.Seed.size : Int) - (g.Used.length : Int) < 0
    · rw [decide_eq_true hb', cond_true, ob_some]; exact ⟨-1, rfl, fun h => by omega⟩
    · rw [decide_eq_false hb', cond_false, ob_some, decide_eq_false hb']; exact ⟨_, rfl, fun h => by omega⟩
def sgOK (g : Signer) : Bool := ((g.Seed.size : Int) == 32) && ((g.Used.length : Int) == 4)
theorem specOKg (N : Nat) (g : Signer) : spec_SignerOK.m N g = some (sgOK g) := by
  unfold spec_SignerOK.m sgOK
  cases (g.Seed.size : Int) == 32 <;> rfl
theorem implOKg {N : Nat} (hN : Big N) (g : Signer) : impl_SignerOK.m N g = some (sgOK g) := by
  unfold impl_SignerOK.m sgOK
  rw [isHash1 hN, ob_some, bne, Bool.not_not]
  cases (g.Seed.size : Int) == 32 <;> rfl
theorem cloneBool (N : Nat) (a : List Bool) (h : a.length ≤ 1048576) : slices_Clone_bool_bool.m N a = some a := by
  unfold slices_Clone_bool_bool.m
  rw [roomB (by simpa using h) (by omega), cond_true, List.nil_append]
  exact amb_right fun hp => by rw [List.isEmpty_iff] at hp; rw [hp]
def zSgn : Signer := ⟨ByteArray.empty, []⟩
def snR (g : Signer) (i : Int) (m : ByteArray) : Signer × Signature × Int := bif decide ((m.size : Int) > 65536) then (zSgn, zSig, 2) else bif !sgOK g then (zSgn, zSig, 1) else bif !inB i 0 3 then (zSgn, zSig, 4) else bif g.Used.getD i.toNat false then (g, zSig, 13) else (⟨g.Seed, g.Used.set i.toNat true⟩, sigV g.Seed i m, 0)
theorem sgArgs {g : Signer} {i : Int} (h1 : sgOK g = true) (h2 : inB i 0 3 = true) : g.Seed.size = 32 ∧ g.Used.length = 4 ∧ 0 ≤ i ∧ i ≤ 3 := by
  obtain ⟨i0, i3⟩ := inB_iff.1 h2
  simp only [sgOK, Bool.and_eq_true, beq_iff_eq] at h1
  omega
theorem specSN {N : Nat} (hN : Big N) (g : Signer) (i : Int) (m : ByteArray) (hm : m.size ≤ 2097152) (hl : g.Used.length ≤ 1048576) : spec_SignNext.m N g i m = some (snR g i m) := by
  unfold spec_SignNext.m snR spec_l08Index.m
  rw [specOKg, l01In]
  simp only [ob_some]
  cases decide ((m.size : Int) > 65536) with
  | true => rfl
  | false =>
    cases h1 : sgOK g with
    | false => rfl
    | true =>
      cases h2 : inB i 0 3 with
      | false => rfl
      | true =>
        obtain ⟨a1, a2, a3, a4⟩ := sgArgs h1 h2
        simp only [List.nil_append, Bool.not_true, cond_false]
        rw [roomB (by simpa using hl) (by omega), decide_eq_true a3, decide_eq_true (show i < (g.Used.length : Int) by omega), specSign hN _ i m a1 hm a3 a4]
        cases g.Used.getD i.toNat false <;> rfl
theorem implSN {N : Nat} (hN : Big N) (g : Signer) (i : Int) (m : ByteArray) (hm : m.size ≤ 2097152) (hl : g.Used.length ≤ 1048576) : impl_SignNext.m N g i m = some (snR g i m) := by
  unfold impl_SignNext.m snR
  rw [implOKg hN, within, isText1 hN]
  simp only [ob_some, Bool.not_not]
  cases decide ((m.size : Int) > 65536) with
  | true => rfl
  | false =>
    cases h1 : sgOK g with
    | false => rfl
    | true =>
      cases h2 : inB i 0 3 with
      | false => rfl
      | true =>
        obtain ⟨a1, a2, a3, a4⟩ := sgArgs h1 h2
        simp only [Bool.not_true, cond_false]
        rw [cloneBool N _ hl, ob_some, decide_eq_true a3, decide_eq_true (show i < (g.Used.length : Int) by omega), implSign hN _ i m a1 hm a3 a4]
        cases g.Used.getD i.toNat false <;> rfl
theorem snR_len (g : Signer) (i : Int) (m : ByteArray) (hl : g.Used.length ≤ 1048576) : (snR g i m).1.Used.length ≤ 1048576 ∧ (snR g i m).2.1.Parts.length ≤ 1048576 ∧ (snR g i m).2.1.Path.length ≤ 1048576 := by
  have hz : ∀ c : Int, (zSgn, zSig, c).1.Used.length ≤ 1048576 ∧ (zSgn, zSig, c).2.1.Parts.length ≤ 1048576 ∧ (zSgn, zSig, c).2.1.Path.length ≤ 1048576 := fun c => ⟨Nat.zero_le _, Nat.zero_le _, Nat.zero_le _⟩
  unfold snR
  cases decide ((m.size : Int) > 65536) with
  | true => exact hz 2
  | false =>
    cases sgOK g with
    | false => exact hz 1
    | true =>
      cases inB i 0 3 with
      | false => exact hz 4
      | true =>
        cases g.Used.getD i.toNat false with
        | true => exact ⟨hl, Nat.zero_le _, Nat.zero_le _⟩
        | false =>
          refine ⟨?_, ?_, ?_⟩
          · show (g.Used.set i.toNat true).length ≤ _; rw [List.length_set]; exact hl
          · show (sgL g.Seed i m 18).length ≤ _; rw [sgL_len]; omega
          · show (pathV g.Seed i).length ≤ _; rw [pathV_len]; omega
theorem wfSgn {g : Signer} (h : ∃ n, WfE E (WfA E n) (.st 58) g) : g.Seed.size ≤ maxLen ∧ g.Used.length ≤ maxLen := by
  obtain ⟨n, h1, h2, _⟩ := h
  constructor
  · cases n <;> exact h1
  · cases n with
    | zero => exact h2.elim
    | succ n => exact h2.1
theorem pureSignNext (a0 : Signer) (a1 : Int) (a2 : ByteArray) (h0 : ∃ n, WfE E (WfA E n) (.st 58) a0) (_ : ∃ n, WfE E (WfA E n) (.int .i64) a1) (_ : ∃ n, WfE E (WfA E n) .str a2) : ∃ N, laws_FnExactSignNext.m N a0 a1 a2 = some true := by
  refine ⟨16777216, ?_⟩
  generalize hN' : 16777216 = N
  have hN : Big N := by omega
  unfold laws_FnExactSignNext.m
  by_cases h : (a2.size : Int) > 1048576
  · rw [decide_eq_true h]; rfl
  obtain ⟨w1, w2⟩ := wfSgn h0
  obtain ⟨y, e, hy⟩ := szSgn (N := N) a0 w1 w2
  rw [decide_eq_false h, cond_false, e, ob_some]
  by_cases hn : y < 0
  · rw [decide_eq_true hn]; rfl
  have hl := hy (by omega)
  rw [decide_eq_false hn, cond_false, toSgn hN a0 hl]
  simp only [ob_some]
  rw [specSN hN a0 a1 a2 (by omega) hl, implSN hN a0 a1 a2 (by omega) hl]
  obtain ⟨l1, l2, l3⟩ := snR_len a0 a1 a2 hl
  generalize snR a0 a1 a2 = r at l1 l2 l3
  obtain ⟨k0, y0, p1, _, p3, p4⟩ := markSgn hN a0 hl
  obtain ⟨k1, y1, q1', q2', q3', q4'⟩ := markSgn hN r.1 l1
  obtain ⟨k2, y2, m1, m2, m3⟩ := markSig hN r.2.1 k1 l2 l3 (by omega) (by omega)
  simp only [cond_false, ob_some, eqSgn hN r.1 l1, eqSgn hN a0 hl, eqSig hN r.2.1 l2 l3, p1, q1', q2', m1, m2, Bool.not_true, bne_self_eq_false, decide_eq_false (show ¬ k0 < 0 by omega), decide_eq_false (show ¬ k1 < 0 by omega), decide_eq_false (show ¬ k2 < 0 by omega)]
end Mir.Y
