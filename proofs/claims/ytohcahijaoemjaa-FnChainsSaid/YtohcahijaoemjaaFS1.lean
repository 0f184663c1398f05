/- Pure laws: words of 32 bits. -/
import Derived.Test.YtohcahijaoemjaaFL1
namespace Mir.Y
set_option linter.unusedVariables false
set_option linter.unusedSimpArgs false
open Go
theorem wrap32 (v : BitVec 32) : IntKind.wrap .u32 (v.toNat : Int) = (v.toNat : Int) := by
  have := v.isLt
  simp only [IntKind.wrap, IntKind.bits, IntKind.signed]
  simp
  omega
theorem or32 (x y : Int) : ibit .or .u32 x y = ((BitVec.ofInt 32 x ||| BitVec.ofInt 32 y).toNat : Int) := wrap32 (BitVec.ofInt 32 x ||| BitVec.ofInt 32 y)
theorem and32 (x y : Int) : ibit .and .u32 x y = ((BitVec.ofInt 32 x &&& BitVec.ofInt 32 y).toNat : Int) := wrap32 (BitVec.ofInt 32 x &&& BitVec.ofInt 32 y)
theorem xor32 (x y : Int) : ibit .xor .u32 x y = ((BitVec.ofInt 32 x ^^^ BitVec.ofInt 32 y).toNat : Int) := wrap32 (BitVec.ofInt 32 x ^^^ BitVec.ofInt 32 y)
theorem of32 (v : BitVec 32) : BitVec.ofInt 32 (v.toNat : Int) = v := by
  apply BitVec.eq_of_toNat_eq
  simp
theorem or_comm32 (x y : Int) : ibit .or .u32 x y = ibit .or .u32 y x := by rw [or32, or32, BitVec.or_comm]
def chI (e f g : Int) : Int := ibit .or .u32 (ibit .and .u32 e f) (ibit .and .u32 (ibit .xor .u32 (if IntKind.signed .u32 then -1 else IntKind.max .u32) e) g)
def chS (e f g : Int) : Int := ibit .xor .u32 (ibit .and .u32 e f) (ibit .and .u32 (ibit .xor .u32 (if IntKind.signed .u32 then -1 else IntKind.max .u32) e) g)
theorem ones32 : BitVec.ofInt 32 (if IntKind.signed .u32 then -1 else IntKind.max .u32) = BitVec.allOnes 32 := by decide
theorem ch_eq (e f g : Int) : chI e f g = chS e f g := by
  unfold chI chS
  rw [or32, xor32, and32, and32, xor32, of32, of32, of32, ones32]
  congr 2
  generalize BitVec.ofInt 32 e = a
  generalize BitVec.ofInt 32 f = b
  generalize BitVec.ofInt 32 g = c
  apply BitVec.eq_of_getLsbD_eq
  intro i hi
  simp only [BitVec.getLsbD_or, BitVec.getLsbD_and, BitVec.getLsbD_xor, BitVec.getLsbD_allOnes, hi, decide_true]
  cases a.getLsbD i <;> cases b.getLsbD i <;> cases c.getLsbD i <;> rfl
def mjI (a b c : Int) : Int := ibit .or .u32 (ibit .or .u32 (ibit .and .u32 a b) (ibit .and .u32 a c)) (ibit .and .u32 b c)
def mjS (a b c : Int) : Int := ibit .xor .u32 (ibit .xor .u32 (ibit .and .u32 a b) (ibit .and .u32 a c)) (ibit .and .u32 b c)
theorem mj_eq (a b c : Int) : mjI a b c = mjS a b c := by
  unfold mjI mjS
  rw [or32, xor32, or32, xor32, and32, and32, and32, of32, of32, of32, of32, of32]
  congr 1
  generalize BitVec.ofInt 32 a = x
  generalize BitVec.ofInt 32 b = y
  generalize BitVec.ofInt 32 c = z
  congr 1
  apply BitVec.eq_of_getLsbD_eq
  intro i hi
  simp only [BitVec.getLsbD_or, BitVec.getLsbD_and, BitVec.getLsbD_xor]
  cases x.getLsbD i <;> cases y.getLsbD i <;> cases z.getLsbD i <;> rfl
def tn (x : Int) (n : Nat) : Int := ibit .or .u32 (Int.fdiv x (2 ^ n)) (wu32 (x * 2 ^ (32 - n)))
def tn' (x : Int) (n : Nat) : Int := ibit .or .u32 (wu32 (x * 2 ^ (32 - n))) (Int.fdiv x (2 ^ n))
theorem tn'_eq (x : Int) (n : Nat) : tn' x n = tn x n := or_comm32 _ _
theorem tS2 (N : Nat) (x : Int) : spec_l01Turn.m N x 2 = some (tn x 2) := by kernel_rfl
theorem tS6 (N : Nat) (x : Int) : spec_l01Turn.m N x 6 = some (tn x 6) := by kernel_rfl
theorem tS7 (N : Nat) (x : Int) : spec_l01Turn.m N x 7 = some (tn x 7) := by kernel_rfl
theorem tS11 (N : Nat) (x : Int) : spec_l01Turn.m N x 11 = some (tn x 11) := by kernel_rfl
theorem tS13 (N : Nat) (x : Int) : spec_l01Turn.m N x 13 = some (tn x 13) := by kernel_rfl
theorem tS17 (N : Nat) (x : Int) : spec_l01Turn.m N x 17 = some (tn x 17) := by kernel_rfl
theorem tS18 (N : Nat) (x : Int) : spec_l01Turn.m N x 18 = some (tn x 18) := by kernel_rfl
theorem tS19 (N : Nat) (x : Int) : spec_l01Turn.m N x 19 = some (tn x 19) := by kernel_rfl
theorem tS22 (N : Nat) (x : Int) : spec_l01Turn.m N x 22 = some (tn x 22) := by kernel_rfl
theorem tS25 (N : Nat) (x : Int) : spec_l01Turn.m N x 25 = some (tn x 25) := by kernel_rfl
theorem tI2 (N : Nat) (x : Int) : impl_turned.m N x 2 = some (tn x 2) := (by kernel_rfl : _ = some (tn' x 2)).trans (congrArg some (tn'_eq x 2))
theorem tI6 (N : Nat) (x : Int) : impl_turned.m N x 6 = some (tn x 6) := (by kernel_rfl : _ = some (tn' x 6)).trans (congrArg some (tn'_eq x 6))
theorem tI7 (N : Nat) (x : Int) : impl_turned.m N x 7 = some (tn x 7) := (by kernel_rfl : _ = some (tn' x 7)).trans (congrArg some (tn'_eq x 7))
theorem tI11 (N : Nat) (x : Int) : impl_turned.m N x 11 = some (tn x 11) := (by kernel_rfl : _ = some (tn' x 11)).trans (congrArg some (tn'_eq x 11))
theorem tI13 (N : Nat) (x : Int) : impl_turned.m N x 13 = some (tn x 13) := (by kernel_rfl : _ = some (tn' x 13)).trans (congrArg some (tn'_eq x 13))
theorem tI17 (N : Nat) (x : Int) : impl_turned.m N x 17 = some (tn x 17) := (by kernel_rfl : _ = some (tn' x 17)).trans (congrArg some (tn'_eq x 17))
theorem tI18 (N : Nat) (x : Int) : impl_turned.m N x 18 = some (tn x 18) := (by kernel_rfl : _ = some (tn' x 18)).trans (congrArg some (tn'_eq x 18))
theorem tI19 (N : Nat) (x : Int) : impl_turned.m N x 19 = some (tn x 19) := (by kernel_rfl : _ = some (tn' x 19)).trans (congrArg some (tn'_eq x 19))
theorem tI22 (N : Nat) (x : Int) : impl_turned.m N x 22 = some (tn x 22) := (by kernel_rfl : _ = some (tn' x 22)).trans (congrArg some (tn'_eq x 22))
theorem tI25 (N : Nat) (x : Int) : impl_turned.m N x 25 = some (tn x 25) := (by kernel_rfl : _ = some (tn' x 25)).trans (congrArg some (tn'_eq x 25))
end Mir.Y
