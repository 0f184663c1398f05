/- Pure laws: SignNext. -/
import Derived.Test.YtohcahijaoemjaaFS8
namespace Mir.Y
set_option linter.unusedVariables false
set_option linter.unusedSimpArgs false
open Go
def fBool (c : Int) (_ : Bool) : Int × Bool := (w64 (c + 1), Int.tmod c 3 == 0)
theorem fBool_count (c : Int) (x : Bool) (h0 : 0 ≤ c) (h1 : c ≤ 8388608) : (fBool c x).1 = c + 1 := w_small (by omega) (by omega)
def sgOK (g : Signer) : Bool := ((g.Seed.size : Int) == 32) && ((g.Used.length : Int) == 4)
theorem specOKg (N : Nat) (g : Signer) : spec_SignerOK.m N g = some (sgOK g) := by
  unfold spec_SignerOK.m sgOK
  cases (g.Seed.size : Int) == 32 <;> rfl
theorem implOKg {N : Nat} (hN : Big N) (g : Signer) : impl_SignerOK.m N g = some (sgOK g) := by
  unfold impl_SignerOK.m sgOK
  rw [isHash1 hN, ob_some, bne, Bool.not_not]
  cases (g.Seed.size : Int) == 32 <;> rfl
theorem cloneBool (N : Nat) (a : List Bool) (h : a.length ≤ 1048576) : slices_Clone_bool_bool.m N a = some a := by
  unfold slices_Clone_bool_bool.m
  rw [roomB (by simpa using h) (by omega), cond_true, List.nil_append]
  exact amb_right fun hp => by rw [List.isEmpty_iff] at hp; rw [hp]
def zSgn : Signer := ⟨ByteArray.empty, []⟩
def snR (g : Signer) (i : Int) (m : ByteArray) : Signer × Signature × Int := bif decide ((m.size : Int) > 65536) then (zSgn, zSig, 2) else bif !sgOK g then (zSgn, zSig, 1) else bif !inB i 0 3 then (zSgn, zSig, 4) else bif g.Used.getD i.toNat false then (g, zSig, 13) else (⟨g.Seed, g.Used.set i.toNat true⟩, sigV g.Seed i m, 0)
theorem sgArgs {g : Signer} {i : Int} (h1 : sgOK g = true) (h2 : inB i 0 3 = true) : g.Seed.size = 32 ∧ g.Used.length = 4 ∧ 0 ≤ i ∧ i ≤ 3 := by
  obtain ⟨i0, i3⟩ := inB_iff.1 h2
  simp only [sgOK, Bool.and_eq_true, beq_iff_eq] at h1
  omega
theorem specSN {N : Nat} (hN : Big N) (g : Signer) (i : Int) (m : ByteArray) (hm : m.size ≤ 2097152) (hl : g.Used.length ≤ 1048576) : spec_SignNext.m N g i m = some (snR g i m) := by
  unfold spec_SignNext.m snR spec_l08Index.m
  rw [specOKg, l01In]
  simp only [ob_some]
  cases decide ((m.size : Int) > 65536) with
  | true => rfl
  | false =>
    cases h1 : sgOK g with
    | false => rfl
    | true =>
      cases h2 : inB i 0 3 with
      | false => rfl
      | true =>
        obtain ⟨a1, a2, a3, a4⟩ := sgArgs h1 h2
        simp only [List.nil_append, Bool.not_true, cond_false]
        rw [roomB (by simpa using hl) (by omega), decide_eq_true a3, decide_eq_true (show i < (g.Used.length : Int) by omega), specSign hN _ i m a1 hm a3 a4]
        cases g.Used.getD i.toNat false <;> rfl
theorem implSN {N : Nat} (hN : Big N) (g : Signer) (i : Int) (m : ByteArray) (hm : m.size ≤ 2097152) (hl : g.Used.length ≤ 1048576) : impl_SignNext.m N g i m = some (snR g i m) := by
  unfold impl_SignNext.m snR
  rw [implOKg hN, within, isText1 hN]
  simp only [ob_some, Bool.not_not]
  cases decide ((m.size : Int) > 65536) with
  | true => rfl
  | false =>
    cases h1 : sgOK g with
    | false => rfl
    | true =>
      cases h2 : inB i 0 3 with
      | false => rfl
      | true =>
        obtain ⟨a1, a2, a3, a4⟩ := sgArgs h1 h2
        simp only [Bool.not_true, cond_false]
        rw [cloneBool N _ hl, ob_some, decide_eq_true a3, decide_eq_true (show i < (g.Used.length : Int) by omega), implSign hN _ i m a1 hm a3 a4]
        cases g.Used.getD i.toNat false <;> rfl
theorem snR_len (g : Signer) (i : Int) (m : ByteArray) (hl : g.Used.length ≤ 1048576) : (snR g i m).1.Used.length ≤ 1048576 ∧ (snR g i m).2.1.Parts.length ≤ 1048576 ∧ (snR g i m).2.1.Path.length ≤ 1048576 := by
  have hz : ∀ c : Int, (zSgn, zSig, c).1.Used.length ≤ 1048576 ∧ (zSgn, zSig, c).2.1.Parts.length ≤ 1048576 ∧ (zSgn, zSig, c).2.1.Path.length ≤ 1048576 := fun c => ⟨Nat.zero_le _, Nat.zero_le _, Nat.zero_le _⟩
  unfold snR
  cases decide ((m.size : Int) > 65536) with
  | true => exact hz 2
  | false =>
    cases sgOK g with
    | false => exact hz 1
    | true =>
      cases inB i 0 3 with
      | false => exact hz 4
      | true =>
        cases g.Used.getD i.toNat false with
        | true => exact ⟨hl, Nat.zero_le _, Nat.zero_le _⟩
        | false =>
          refine ⟨?_, ?_, ?_⟩
          · show (g.Used.set i.toNat true).length ≤ _; rw [List.length_set]; exact hl
          · show (sgL g.Seed i m 18).length ≤ _; rw [sgL_len]; omega
          · show (pathV g.Seed i).length ≤ _; rw [pathV_len]; omega
theorem wfSgn {g : Signer} (h : ∃ n, WfE E (WfA E n) (.st 58) g) : g.Seed.size ≤ maxLen ∧ g.Used.length ≤ maxLen := by
  obtain ⟨n, h1, h2, _⟩ := h
  constructor
  · cases n <;> exact h1
  · cases n with
    | zero => exact h2.elim
    | succ n => exact h2.1
end Mir.Y
