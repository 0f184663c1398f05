/- Models of functions. -/
import Derived.Test.YtojpcjbdehoibaaGreatKM2
namespace Mir.Y
set_option linter.unusedVariables false
set_option maxRecDepth 10000
open Go Go.Proofs Mir
/-! ### impl_MapGet: loop.example/g00220/impl.MapGet -/
namespace impl_MapGet
abbrev R := ByteArray × Int
noncomputable def m (N : Nat) (a0 : Branch) (a1 : ByteArray) : Option R :=
  ob (impl_mapCode.m N (Branch.mk a0.Key a0.Value a0.At a0.Kids) a1) fun y1 =>
  bif (y1.2 != (0:Int)) then
    some (ByteArray.empty, y1.2)
  else
  ob (impl_pairAt.m N y1.1 a1) fun y2 =>
  bif (!y2.2) then
    some (ByteArray.empty, (5:Int))
  else
  bif (decide (0 ≤ y2.1)) then
  bif (decide (y2.1 < (y1.1.length : Int))) then
  some ((y1.1.getD (Int.toNat y2.1) pairOf.dz).value, (0:Int))
  else none
  else none
@[reducible] noncomputable def sp (N : Nat) : Spec E := { ps := [.val (.st 25), .val .str], rs := [.str, (.int .i64)], own := true, dp := false, R := R, fn := fun x => m N x.1 x.2.1, res := fun r => (r.1, r.2, ()), out := fun r => ((), (), ()), shut := fun a b => (a.1, a.2.1), res_shut := fun _ _ => rfl, out_shut := fun _ _ => rfl }
end impl_MapGet
/-! ### laws_sameProof: loop.example/g00220/laws.sameProof -/
namespace laws_sameProof
abbrev R := Bool
noncomputable def step4 (N : Nat) (a0 : MapProof) (a1 : MapProof) (rec : Int → Option R) : Int → Option R
  | v0 =>
    bif (decide (v0 < (a0.Steps.length : Int))) then
      bif (decide (0 ≤ v0)) then
      bif (decide (v0 < (a0.Steps.length : Int))) then
      bif (decide (0 ≤ v0)) then
      bif (decide (v0 < (a1.Steps.length : Int))) then
      (let w1 : Bool := (!(((a0.Steps.getD (Int.toNat v0) MapStep.dz).At == (a1.Steps.getD (Int.toNat v0) MapStep.dz).At) && (seq ((a0.Steps.getD (Int.toNat v0) MapStep.dz).Hash) ((a1.Steps.getD (Int.toNat v0) MapStep.dz).Hash))))
      bif w1 then
        some false
      else
      rec (w64 (v0 + (1:Int))))
      else none
      else none
      else none
      else none
    else
    some true
noncomputable def lp4 (N : Nat) (a0 : MapProof) (a1 : MapProof) : Int → Option R :=
  miter (fun rec => step4 N a0 a1 rec) N
noncomputable def m (N : Nat) (a0 : MapProof) (a1 : MapProof) : Option R :=
  bif (!(a0.Found == a1.Found)) then
    some false
  else
  bif (bif false then true else (!seq a0.Key a1.Key)) then
    some false
  else
  bif (bif false then true else (!seq a0.Value a1.Value)) then
    some false
  else
  bif (bif false then true else ((a0.Steps.length : Int) != (a1.Steps.length : Int))) then
    some false
  else
  lp4 N a0 a1 (0:Int)
@[reducible] noncomputable def sp (N : Nat) : Spec E := { ps := [.val (.st 32), .val (.st 32)], rs := [.bool], own := true, dp := false, R := R, fn := fun x => m N x.1 x.2.1, res := fun r => (r, ()), out := fun r => ((), (), ()), shut := fun a b => a.1, res_shut := fun _ _ => rfl, out_shut := fun _ _ => rfl }
end laws_sameProof
/-! ### impl_isHash_1: loop.example/g00220/impl.isHash$1 -/
namespace impl_isHash_1
abbrev R := Bool
noncomputable def m (N : Nat) (a0 : ByteArray) : Option R :=
  some ((a0.size : Int) != (32:Int))
@[reducible] noncomputable def sp (N : Nat) : Spec E := { ps := [.val .str], rs := [.bool], own := true, dp := false, R := R, fn := fun x => m N x.1, res := fun r => (r, ()), out := fun r => ((), ()), shut := fun a b => a.1, res_shut := fun _ _ => rfl, out_shut := fun _ _ => rfl }
end impl_isHash_1
/-! ### slices_IndexFunc_string_string__impl_isHash_1: slices.IndexFunc[[]string,string] -/
namespace slices_IndexFunc_string_string__impl_isHash_1
abbrev R := Int
noncomputable def step2 (N : Nat) (a0 : List ByteArray) (rec : (Int × Int) → Option R) : (Int × Int) → Option R
  | (v1, v2) =>
    bif (decide (v2 < v1)) then
      bif (decide (0 ≤ v2)) then
      bif (decide (v2 < (a0.length : Int))) then
      ob (impl_isHash_1.m N (a0.getD (Int.toNat v2) ByteArray.empty)) fun y1 =>
      bif y1 then
        some v2
      else
      rec (v1, (w64 (v2 + (1:Int))))
      else none
      else none
    else
    some (-1:Int)
noncomputable def lp2 (N : Nat) (a0 : List ByteArray) : (Int × Int) → Option R :=
  miter (fun rec => step2 N a0 rec) N
noncomputable def m (N : Nat) (a0 : List ByteArray) : Option R :=
  lp2 N a0 ((a0.length : Int), (0:Int))
@[reducible] noncomputable def sp (N : Nat) : Spec E := { ps := [.val (.slice 9 .str), .clo 66 []], rs := [(.int .i64)], own := true, dp := false, R := R, fn := fun x => m N x.1, res := fun r => (r, ()), out := fun r => ((), (), ()), shut := fun a b => a.1, res_shut := fun _ _ => rfl, out_shut := fun _ _ => rfl }
end slices_IndexFunc_string_string__impl_isHash_1
/-! ### slices_ContainsFunc_string_string__impl_isHash_1: slices.ContainsFunc[[]string,string] -/
namespace slices_ContainsFunc_string_string__impl_isHash_1
abbrev R := Bool
noncomputable def m (N : Nat) (a0 : List ByteArray) : Option R :=
  ob (slices_IndexFunc_string_string__impl_isHash_1.m N a0) fun y1 =>
  some (decide (y1 ≥ (0:Int)))
@[reducible] noncomputable def sp (N : Nat) : Spec E := { ps := [.val (.slice 9 .str), .clo 66 []], rs := [.bool], own := true, dp := false, R := R, fn := fun x => m N x.1, res := fun r => (r, ()), out := fun r => ((), (), ()), shut := fun a b => a.1, res_shut := fun _ _ => rfl, out_shut := fun _ _ => rfl }
end slices_ContainsFunc_string_string__impl_isHash_1
/-! ### impl_isHash: loop.example/g00220/impl.isHash -/
namespace impl_isHash
abbrev R := Bool
noncomputable def m (N : Nat) (a0 : List ByteArray) : Option R :=
  ob (slices_ContainsFunc_string_string__impl_isHash_1.m N a0) fun y1 =>
  some (!y1)
@[reducible] noncomputable def sp (N : Nat) : Spec E := { ps := [.val (.slice 9 .str)], rs := [.bool], own := true, dp := false, R := R, fn := fun x => m N x.1, res := fun r => (r, ()), out := fun r => ((), ()), shut := fun a b => a.1, res_shut := fun _ _ => rfl, out_shut := fun _ _ => rfl }
end impl_isHash
/-! ### cmp_isNaN_int: cmp.isNaN[int] -/
namespace cmp_isNaN_int
abbrev R := Bool
noncomputable def m (N : Nat) (a0 : Int) : Option R :=
  some (a0 != a0)
@[reducible] noncomputable def sp (N : Nat) : Spec E := { ps := [.val (.int .i64)], rs := [.bool], own := true, dp := false, R := R, fn := fun x => m N x.1, res := fun r => (r, ()), out := fun r => ((), ()), shut := fun a b => a.1, res_shut := fun _ _ => rfl, out_shut := fun _ _ => rfl }
end cmp_isNaN_int
/-! ### cmp_Compare_int: cmp.Compare[int] -/
namespace cmp_Compare_int
abbrev R := Int
noncomputable def m (N : Nat) (a0 : Int) (a1 : Int) : Option R :=
  ob (cmp_isNaN_int.m N a0) fun y1 =>
  ob (cmp_isNaN_int.m N a1) fun y2 =>
  bif y1 then
    bif y2 then
      some (0:Int)
    else
    some (-1:Int)
  else
  bif y2 then
    some (1:Int)
  else
  bif (decide (a0 < a1)) then
    some (-1:Int)
  else
  bif (decide (a0 > a1)) then
    some (1:Int)
  else
  some (0:Int)
@[reducible] noncomputable def sp (N : Nat) : Spec E := { ps := [.val (.int .i64), .val (.int .i64)], rs := [(.int .i64)], own := true, dp := false, R := R, fn := fun x => m N x.1 x.2.1, res := fun r => (r, ()), out := fun r => ((), (), ()), shut := fun a b => a.1, res_shut := fun _ _ => rfl, out_shut := fun _ _ => rfl }
end cmp_Compare_int
/-! ### impl_stepsOK: loop.example/g00220/impl.stepsOK -/
namespace impl_stepsOK
abbrev R := Bool
noncomputable def step2 (N : Nat) (a0 : List MapStep) (rec : (Int × Int) → Option R) : (Int × Int) → Option R
  | (v2, v3) =>
    bif (decide (v3 < v2)) then
      bif (decide (0 ≤ v3)) then
      bif (decide (v3 < (a0.length : Int))) then
      ob (impl_within.m N ((a0.getD (Int.toNat v3) MapStep.dz).At) (0:Int) (255:Int)) fun y1 =>
      bif (!y1) then
        some false
      else
      bif (decide (v3 > (0:Int))) then
        bif (decide (0 ≤ (w64 (v3 - (1:Int))))) then
        bif (decide ((w64 (v3 - (1:Int))) < (a0.length : Int))) then
        ob (cmp_Compare_int.m N ((a0.getD (Int.toNat (w64 (v3 - (1:Int)))) MapStep.dz).At) ((a0.getD (Int.toNat v3) MapStep.dz).At)) fun y2 =>
        bif (bif false then true else (bif true then (decide (y2 ≥ (0:Int))) else false)) then
          some false
        else
        ob (impl_isHash.m N ([(a0.getD (Int.toNat v3) MapStep.dz).Hash])) fun y3 =>
        bif (bif false then true else (!y3)) then
          some false
        else
        rec (v2, (w64 (v3 + (1:Int))))
        else none
        else none
      else
      bif (bif false then true else false) then
        some false
      else
      ob (impl_isHash.m N ([(a0.getD (Int.toNat v3) MapStep.dz).Hash])) fun y4 =>
      bif (bif false then true else (!y4)) then
        some false
      else
      rec (v2, (w64 (v3 + (1:Int))))
      else none
      else none
    else
    some (decide ((a0.length : Int) ≤ (256:Int)))
noncomputable def lp2 (N : Nat) (a0 : List MapStep) : (Int × Int) → Option R :=
  miter (fun rec => step2 N a0 rec) N
noncomputable def m (N : Nat) (a0 : List MapStep) : Option R :=
  lp2 N a0 ((a0.length : Int), (0:Int))
@[reducible] noncomputable def sp (N : Nat) : Spec E := { ps := [.val (.slice 52 (.st 52))], rs := [.bool], own := true, dp := false, R := R, fn := fun x => m N x.1, res := fun r => (r, ()), out := fun r => ((), ()), shut := fun a b => a.1, res_shut := fun _ _ => rfl, out_shut := fun _ _ => rfl }
end impl_stepsOK
/-! ### impl_checkKey_1: loop.example/g00220/impl.checkKey$1 -/
namespace impl_checkKey_1
abbrev R := Bool
noncomputable def m (N : Nat) (a0 : MapStep) (a1 : ByteArray) (a2 : ByteArray) : Option R :=
  ob (impl_bit.m N a1 a0.At) fun y1 =>
  ob (impl_bit.m N a2 a0.At) fun y2 =>
  some (y1 != y2)
@[reducible] noncomputable def sp (N : Nat) : Spec E := { ps := [.val (.st 52), .cap (.rb .str), .cap (.rb .str)], rs := [.bool], own := true, dp := false, R := R, fn := fun x => m N x.1 x.2.1 x.2.2.1, res := fun r => (r, ()), out := fun r => ((), (), (), ()), shut := fun a b => a.1, res_shut := fun _ _ => rfl, out_shut := fun _ _ => rfl }
end impl_checkKey_1
/-! ### slices_IndexFunc_impl_MapStep_impl_MapStep__impl_checkKey_1: slices.IndexFunc[[]loop.example/g00220/impl.MapStep,loop.example/g00220/impl.MapStep] -/
namespace slices_IndexFunc_impl_MapStep_impl_MapStep__impl_checkKey_1
abbrev R := Int
noncomputable def step2 (N : Nat) (a0 : List MapStep) (a1_0 : ByteArray) (a1_1 : ByteArray) (rec : (Int × Int) → Option R) : (Int × Int) → Option R
  | (v1, v2) =>
    bif (decide (v2 < v1)) then
      bif (decide (0 ≤ v2)) then
      bif (decide (v2 < (a0.length : Int))) then
      ob (impl_checkKey_1.m N (a0.getD (Int.toNat v2) MapStep.dz) a1_0 a1_1) fun y1 =>
      bif y1 then
        some v2
      else
      rec (v1, (w64 (v2 + (1:Int))))
      else none
      else none
    else
    some (-1:Int)
noncomputable def lp2 (N : Nat) (a0 : List MapStep) (a1_0 : ByteArray) (a1_1 : ByteArray) : (Int × Int) → Option R :=
  miter (fun rec => step2 N a0 a1_0 a1_1 rec) N
noncomputable def m (N : Nat) (a0 : List MapStep) (a1_0 : ByteArray) (a1_1 : ByteArray) : Option R :=
  lp2 N a0 a1_0 a1_1 ((a0.length : Int), (0:Int))
@[reducible] noncomputable def sp (N : Nat) : Spec E := { ps := [.val (.slice 52 (.st 52)), .clo 69 [.rb .str, .rb .str]], rs := [(.int .i64)], own := true, dp := false, R := R, fn := fun x => m N x.1 x.2.1.1 x.2.1.2.1, res := fun r => (r, ()), out := fun r => ((), (), ()), shut := fun a b => a.1, res_shut := fun _ _ => rfl, out_shut := fun _ _ => rfl }
end slices_IndexFunc_impl_MapStep_impl_MapStep__impl_checkKey_1
/-! ### slices_ContainsFunc_impl_MapStep_impl_MapStep__impl_checkKey_1: slices.ContainsFunc[[]loop.example/g00220/impl.MapStep,loop.example/g00220/impl.MapStep] -/
namespace slices_ContainsFunc_impl_MapStep_impl_MapStep__impl_checkKey_1
abbrev R := Bool
noncomputable def m (N : Nat) (a0 : List MapStep) (a1_0 : ByteArray) (a1_1 : ByteArray) : Option R :=
  ob (slices_IndexFunc_impl_MapStep_impl_MapStep__impl_checkKey_1.m N a0 a1_0 a1_1) fun y1 =>
  some (decide (y1 ≥ (0:Int)))
@[reducible] noncomputable def sp (N : Nat) : Spec E := { ps := [.val (.slice 52 (.st 52)), .clo 69 [.rb .str, .rb .str]], rs := [.bool], own := true, dp := false, R := R, fn := fun x => m N x.1 x.2.1.1 x.2.1.2.1, res := fun r => (r, ()), out := fun r => ((), (), ()), shut := fun a b => a.1, res_shut := fun _ _ => rfl, out_shut := fun _ _ => rfl }
end slices_ContainsFunc_impl_MapStep_impl_MapStep__impl_checkKey_1
/-! ### impl_MapProof_rootOf: (impl.MapProof).rootOf, by hand -/
namespace impl_MapProof_rootOf
abbrev R := ByteArray
noncomputable def st (N : Nat) (h : ByteArray) (t : Int) (s o : ByteArray) : Option ByteArray :=
  ob (impl_bit.m N h t) fun b => bif b == (0 : Int) then impl_forkRoot.m N t o s else impl_forkRoot.m N t s o
noncomputable def fo (N : Nat) (h : ByteArray) : List MapStep → ByteArray → Option ByteArray
  | [], o => some o
  | x :: r, o => ob (st N h x.At x.Hash o) (fo N h r)
def Ok (N : Nat) (a0 : MapProof) (a1 : ByteArray) : Prop :=
  a0.Steps.length ≤ 1048576000 ∧ (∀ s ∈ a0.Steps, ∀ o : ByteArray, o.size = 32 → ∃ y : ByteArray, st N a1 s.At s.Hash o = some y ∧ y.size = 32) ∧ ∃ o : ByteArray, impl_leafRoot.m N a0.Key a0.Value = some o ∧ o.size = 32
open Classical in
noncomputable def m (N : Nat) (a0 : MapProof) (a1 : ByteArray) : Option R :=
  if Ok N a0 a1 then ob (impl_leafRoot.m N a0.Key a0.Value) (fo N a1 a0.Steps.reverse) else none
@[reducible] noncomputable def sp (N : Nat) : Spec E := { ps := [.val (.st 32), .val .str], rs := [.str], own := true, dp := false, R := R, fn := fun x => m N x.1 x.2.1, res := fun r => (r, ()), out := fun r => ((), (), ()), shut := fun a b => a.1, res_shut := fun _ _ => rfl, out_shut := fun _ _ => rfl }
end impl_MapProof_rootOf
/-! ### impl_checkKey: loop.example/g00220/impl.checkKey -/
namespace impl_checkKey
abbrev R := Int
noncomputable def m (N : Nat) (a0 : ByteArray) (a1 : ByteArray) (a2 : MapProof) : Option R :=
  bif (seq a2.Key ByteArray.empty) then
    bif a2.Found then
      some (10:Int)
    else
    bif (bif false then true else (!seq a2.Value ByteArray.empty)) then
      some (10:Int)
    else
    bif (bif false then true else (decide ((a2.Steps.length : Int) > (0:Int)))) then
      some (10:Int)
    else
    ob (impl_hash.m N (⟨#[2]⟩ : ByteArray)) fun y1 =>
    bif (bif false then true else (!seq a0 y1)) then
      some (10:Int)
    else
    some (0:Int)
  else
  ob (impl_hash.m N a1) fun y2 =>
  ob (impl_hash.m N a2.Key) fun y3 =>
  ob (impl_isKey.m N a2.Key) fun y4 =>
  bif (!y4) then
    some (10:Int)
  else
  bif (bif false then true else (!(a2.Found == (seq a2.Key a1)))) then
    some (10:Int)
  else
  ob (slices_ContainsFunc_impl_MapStep_impl_MapStep__impl_checkKey_1.m N a2.Steps y2 y3) fun y5 =>
  bif (bif false then true else y5) then
    some (10:Int)
  else
  ob (impl_MapProof_rootOf.m N a2 y2) fun y6 =>
  bif (!seq y6 a0) then
    some (11:Int)
  else
  some (0:Int)
@[reducible] noncomputable def sp (N : Nat) : Spec E := { ps := [.val .str, .val .str, .val (.st 32)], rs := [(.int .i64)], own := true, dp := false, R := R, fn := fun x => m N x.1 x.2.1 x.2.2.1, res := fun r => (r, ()), out := fun r => ((), (), (), ()), shut := fun a b => a.1, res_shut := fun _ _ => rfl, out_shut := fun _ _ => rfl }
end impl_checkKey
/-! ### impl_CheckKey: loop.example/g00220/impl.CheckKey -/
namespace impl_CheckKey
abbrev R := Int
noncomputable def m (N : Nat) (a0 : ByteArray) (a1 : ByteArray) (a2 : MapProof) : Option R :=
  ob (impl_isText.m N ([a0, a1])) fun y1 =>
  bif (!y1) then
    some (2:Int)
  else
  ob (impl_isHash.m N ([a0])) fun y2 =>
  bif (!y2) then
    some (1:Int)
  else
  ob (impl_isKey.m N a1) fun y3 =>
  bif (bif false then true else (!y3)) then
    some (1:Int)
  else
  ob (impl_stepsOK.m N a2.Steps) fun y4 =>
  bif (bif false then true else (!y4)) then
    some (1:Int)
  else
  ob (impl_isValue.m N a2.Value) fun y5 =>
  bif (bif false then true else (!y5)) then
    some (1:Int)
  else
  ob (impl_checkKey.m N a0 a1 a2) fun y6 =>
  some y6
@[reducible] noncomputable def sp (N : Nat) : Spec E := { ps := [.val .str, .val .str, .val (.st 32)], rs := [(.int .i64)], own := true, dp := false, R := R, fn := fun x => m N x.1 x.2.1 x.2.2.1, res := fun r => (r, ()), out := fun r => ((), (), (), ()), shut := fun a b => a.1, res_shut := fun _ _ => rfl, out_shut := fun _ _ => rfl }
end impl_CheckKey
/-! ### spec_l00Src_digest: (*loop.example/g00220/spec.l00Src).digest -/
namespace spec_l00Src_digest
abbrev R := ByteArray × l00Src
noncomputable def m (N : Nat) (a0 : l00Src) : Option R :=
  ob (spec_l00Src_next_.m N a0 (256:Int)) fun y1 =>
  ob (spec_l00Src_next_.m N y1.2 (4:Int)) fun y2 =>
  ob (spec_l01Hash.m N ([(wu8 y1.1), (wu8 y2.1)])) fun y3 =>
  some (y3, y2.2)
@[reducible] noncomputable def sp (N : Nat) : Spec E := { ps := [.box true 65 65], rs := [.str], own := true, dp := true, R := R, fn := fun x => m N x.1, res := fun r => (r.1, ()), out := fun r => (r.2, ()), shut := fun a b => (a.1, b.1), res_shut := fun _ _ => rfl, out_shut := fun _ _ => rfl }
end spec_l00Src_digest
/-! ### spec_HashOf: loop.example/g00220/spec.HashOf -/
namespace spec_HashOf
abbrev R := ByteArray
noncomputable def m (N : Nat) (a0 : List Int) : Option R :=
  ob (spec_l00Source.m N a0) fun y1 =>
  ob (spec_l00Src_digest.m N y1) fun y2 =>
  some y2.1
@[reducible] noncomputable def sp (N : Nat) : Spec E := { ps := [.val (.slice 5 (.int .u8))], rs := [.str], own := true, dp := false, R := R, fn := fun x => m N x.1, res := fun r => (r, ()), out := fun r => ((), ()), shut := fun a b => a.1, res_shut := fun _ _ => rfl, out_shut := fun _ _ => rfl }
end spec_HashOf
/-! ### spec_l07Check: loop.example/g00220/spec.l07Check -/
namespace spec_l07Check
abbrev R := ByteArray
noncomputable def step3 (N : Nat) (a0 : ByteArray) (a1 : List MapStep) (a2 : ByteArray) (rec : (ByteArray × Int) → Option R) : (ByteArray × Int) → Option R
  | (v2, v3) =>
    bif (decide (v3 ≥ (0:Int))) then
      bif (decide (0 ≤ v3)) then
      bif (decide (v3 < (a1.length : Int))) then
      ob (spec_l07Bit.m N a0 ((a1.getD (Int.toNat v3) MapStep.dz).At)) fun y1 =>
      bif (y1 == (0:Int)) then
        bif (decide (0 ≤ v3)) then
        bif (decide (v3 < (a1.length : Int))) then
        bif (decide (0 ≤ v3)) then
        bif (decide (v3 < (a1.length : Int))) then
        ob (spec_l07ForkHash.m N ((a1.getD (Int.toNat v3) MapStep.dz).At) v2 ((a1.getD (Int.toNat v3) MapStep.dz).Hash)) fun y2 =>
        rec (y2, (w64 (v3 - (1:Int))))
        else none
        else none
        else none
        else none
      else
      bif (decide (0 ≤ v3)) then
      bif (decide (v3 < (a1.length : Int))) then
      bif (decide (0 ≤ v3)) then
      bif (decide (v3 < (a1.length : Int))) then
      ob (spec_l07ForkHash.m N ((a1.getD (Int.toNat v3) MapStep.dz).At) ((a1.getD (Int.toNat v3) MapStep.dz).Hash) v2) fun y3 =>
      rec (y3, (w64 (v3 - (1:Int))))
      else none
      else none
      else none
      else none
      else none
      else none
    else
    some v2
noncomputable def lp3 (N : Nat) (a0 : ByteArray) (a1 : List MapStep) (a2 : ByteArray) : (ByteArray × Int) → Option R :=
  miter (fun rec => step3 N a0 a1 a2 rec) N
noncomputable def m (N : Nat) (a0 : ByteArray) (a1 : List MapStep) (a2 : ByteArray) : Option R :=
  lp3 N a0 a1 a2 (a2, (w64 ((a1.length : Int) - (1:Int))))
@[reducible] noncomputable def sp (N : Nat) : Spec E := { ps := [.val .str, .val (.slice 52 (.st 52)), .val .str], rs := [.str], own := true, dp := false, R := R, fn := fun x => m N x.1 x.2.1 x.2.2.1, res := fun r => (r, ()), out := fun r => ((), (), (), ()), shut := fun a b => a.1, res_shut := fun _ _ => rfl, out_shut := fun _ _ => rfl }
end spec_l07Check
/-! ### spec_CheckKey: loop.example/g00220/spec.CheckKey -/
namespace spec_CheckKey
abbrev R := Int
noncomputable def step8 (N : Nat) (a0 : ByteArray) (a1 : ByteArray) (a2 : MapProof) (lp21 : ByteArray × ByteArray × Int → Option R) (rec : Int → Option R) : Int → Option R
  | v2 =>
    bif (decide (v2 < (a2.Steps.length : Int))) then
      bif (decide (0 ≤ v2)) then
      bif (decide (v2 < (a2.Steps.length : Int))) then
      ob (spec_l01In.m N ((a2.Steps.getD (Int.toNat v2) MapStep.dz).At) (0:Int) (255:Int)) fun y2 =>
      bif (!y2) then
        some (1:Int)
      else
      bif (decide (v2 > (0:Int))) then
        bif (decide (0 ≤ (w64 (v2 - (1:Int))))) then
        bif (decide ((w64 (v2 - (1:Int))) < (a2.Steps.length : Int))) then
        bif (decide (0 ≤ v2)) then
        bif (decide (v2 < (a2.Steps.length : Int))) then
        (let w3 : Bool := (bif true then (decide ((a2.Steps.getD (Int.toNat (w64 (v2 - (1:Int)))) MapStep.dz).At ≥ (a2.Steps.getD (Int.toNat v2) MapStep.dz).At)) else false)
        bif (bif false then true else w3) then
          some (1:Int)
        else
        bif (decide (0 ≤ v2)) then
        bif (decide (v2 < (a2.Steps.length : Int))) then
        bif (bif false then true else ((((a2.Steps.getD (Int.toNat v2) MapStep.dz).Hash).size : Int) != (32:Int))) then
          some (1:Int)
        else
        rec (w64 (v2 + (1:Int)))
        else none
        else none)
        else none
        else none
        else none
        else none
      else
      bif (bif false then true else false) then
        some (1:Int)
      else
      bif (decide (0 ≤ v2)) then
      bif (decide (v2 < (a2.Steps.length : Int))) then
      bif (bif false then true else ((((a2.Steps.getD (Int.toNat v2) MapStep.dz).Hash).size : Int) != (32:Int))) then
        some (1:Int)
      else
      rec (w64 (v2 + (1:Int)))
      else none
      else none
      else none
      else none
    else
    bif (seq a2.Key ByteArray.empty) then
      bif a2.Found then
        some (10:Int)
      else
      bif (bif false then true else (!seq a2.Value ByteArray.empty)) then
        some (10:Int)
      else
      bif (bif false then true else (decide ((a2.Steps.length : Int) > (0:Int)))) then
        some (10:Int)
      else
      ob (spec_l01Hash.m N ([(2:Int)])) fun y4 =>
      bif (bif false then true else (!seq a0 y4)) then
        some (10:Int)
      else
      some (0:Int)
    else
    ob (spec_l02Key.m N a2.Key) fun y5 =>
    bif (!y5) then
      some (10:Int)
    else
    bif (bif false then true else (!(a2.Found == (seq a2.Key a1)))) then
      some (10:Int)
    else
    ob (spec_l07Hash.m N a1) fun y6 =>
    ob (spec_l07Hash.m N a2.Key) fun y7 =>
    lp21 (y6, y7, (0:Int))
noncomputable def step21 (N : Nat) (a0 : ByteArray) (a1 : ByteArray) (a2 : MapProof) (rec : (ByteArray × ByteArray × Int) → Option R) : (ByteArray × ByteArray × Int) → Option R
  | (v1, v2, v3) =>
    bif (decide (v3 < (a2.Steps.length : Int))) then
      bif (decide (0 ≤ v3)) then
      bif (decide (v3 < (a2.Steps.length : Int))) then
      ob (spec_l07Bit.m N v1 ((a2.Steps.getD (Int.toNat v3) MapStep.dz).At)) fun y8 =>
      bif (decide (0 ≤ v3)) then
      bif (decide (v3 < (a2.Steps.length : Int))) then
      ob (spec_l07Bit.m N v2 ((a2.Steps.getD (Int.toNat v3) MapStep.dz).At)) fun y9 =>
      bif (y8 != y9) then
        some (10:Int)
      else
      rec (v1, v2, (w64 (v3 + (1:Int))))
      else none
      else none
      else none
      else none
    else
    ob (spec_l07LeafHash.m N a2.Key a2.Value) fun y10 =>
    ob (spec_l07Check.m N v1 a2.Steps y10) fun y11 =>
    bif (!seq y11 a0) then
      some (11:Int)
    else
    some (0:Int)
noncomputable def lp21 (N : Nat) (a0 : ByteArray) (a1 : ByteArray) (a2 : MapProof) : (ByteArray × ByteArray × Int) → Option R :=
  miter (fun rec => step21 N a0 a1 a2 rec) N
noncomputable def lp8 (N : Nat) (a0 : ByteArray) (a1 : ByteArray) (a2 : MapProof) : Int → Option R :=
  miter (fun rec => step8 N a0 a1 a2 (lp21 N a0 a1 a2) rec) N
noncomputable def m (N : Nat) (a0 : ByteArray) (a1 : ByteArray) (a2 : MapProof) : Option R :=
  bif (decide ((a0.size : Int) > (65536:Int))) then
    some (2:Int)
  else
  bif (decide ((a2.Steps.length : Int) > (4096:Int))) then
    some (2:Int)
  else
  bif (bif false then true else (decide ((a1.size : Int) > (65536:Int)))) then
    some (2:Int)
  else
  bif (bif false then true else (decide ((a2.Key.size : Int) > (65536:Int)))) then
    some (2:Int)
  else
  bif (bif false then true else (decide ((a2.Value.size : Int) > (65536:Int)))) then
    some (2:Int)
  else
  bif ((a0.size : Int) != (32:Int)) then
    some (1:Int)
  else
  ob (spec_l02Key.m N a1) fun y1 =>
  bif (bif false then true else (!y1)) then
    some (1:Int)
  else
  bif (bif false then true else (decide ((a2.Steps.length : Int) > (256:Int)))) then
    some (1:Int)
  else
  bif (bif false then true else (decide ((a2.Value.size : Int) > (60:Int)))) then
    some (1:Int)
  else
  lp8 N a0 a1 a2 (0:Int)
@[reducible] noncomputable def sp (N : Nat) : Spec E := { ps := [.val .str, .val .str, .val (.st 32)], rs := [(.int .i64)], own := true, dp := false, R := R, fn := fun x => m N x.1 x.2.1 x.2.2.1, res := fun r => (r, ()), out := fun r => ((), (), (), ()), shut := fun a b => a.1, res_shut := fun _ _ => rfl, out_shut := fun _ _ => rfl }
end spec_CheckKey
/-! ### laws_FnMapProofs: loop.example/g00220/laws.FnMapProofs -/
namespace laws_FnMapProofs
abbrev R := Bool
noncomputable def m (N : Nat) (a0 : List Int) (a1 : List Int) : Option R :=
  bif (decide ((a0.length : Int) > (1048576:Int))) then
    some true
  else
  bif (bif false then true else (decide ((a1.length : Int) > (1048576:Int)))) then
    some true
  else
  ob (spec_MapOf.m N a0) fun y1 =>
  ob (spec_MapKeyOf.m N a1) fun y2 =>
  ob (impl_MapRoot.m N (Branch.mk y1.Key y1.Value y1.At y1.Kids)) fun y3 =>
  ob (impl_ProveKey.m N (Branch.mk y1.Key y1.Value y1.At y1.Kids) y2) fun y4 =>
  ob (spec_ProveKey.m N (Branch.mk y1.Key y1.Value y1.At y1.Kids) y2) fun y5 =>
  ob (impl_MapGet.m N (Branch.mk y1.Key y1.Value y1.At y1.Kids) y2) fun y6 =>
  bif (y3.2 != (0:Int)) then
    some false
  else
  bif (bif false then true else (y4.2 != (0:Int))) then
    some false
  else
  ob (laws_sameProof.m N y4.1 y5.1) fun y7 =>
  bif (bif false then true else (!y7)) then
    some false
  else
  bif (bif false then true else (!(y4.1.Found == (y6.2 == (0:Int))))) then
    some false
  else
  bif y4.1.Found then
    bif (bif false then true else (bif true then (!seq y4.1.Value y6.1) else false)) then
      some false
    else
    ob (impl_CheckKey.m N y3.1 y2 y4.1) fun y8 =>
    bif (bif false then true else (y8 != (0:Int))) then
      some false
    else
    ob (spec_HashOf.m N a1) fun y9 =>
    bif (!seq y9 y3.1) then
      ob (impl_CheckKey.m N y9 y2 y4.1) fun y10 =>
      bif (bif true then (y10 == (0:Int)) else false) then
        some false
      else
      bif (seq y4.1.Key ByteArray.empty) then
        some true
      else
      bif (decide (y4.1.Value.size + (⟨#[120]⟩ : ByteArray).size ≤ 9223372036854775807)) then
      bif (decide (((y4.1.Value ++ (⟨#[120]⟩ : ByteArray)).size : Int) > (60:Int))) then
        some true
      else
      ob (impl_CheckKey.m N y3.1 y2 (MapProof.mk y4.1.Found y4.1.Key (y4.1.Value ++ (⟨#[120]⟩ : ByteArray)) y4.1.Steps)) fun y11 =>
      ob (spec_CheckKey.m N y3.1 y2 (MapProof.mk y4.1.Found y4.1.Key (y4.1.Value ++ (⟨#[120]⟩ : ByteArray)) y4.1.Steps)) fun y12 =>
      some (y11 == y12)
      else none
    else
    bif (seq y4.1.Key ByteArray.empty) then
      some true
    else
    bif (decide (y4.1.Value.size + (⟨#[120]⟩ : ByteArray).size ≤ 9223372036854775807)) then
    bif (decide (((y4.1.Value ++ (⟨#[120]⟩ : ByteArray)).size : Int) > (60:Int))) then
      some true
    else
    ob (impl_CheckKey.m N y3.1 y2 (MapProof.mk y4.1.Found y4.1.Key (y4.1.Value ++ (⟨#[120]⟩ : ByteArray)) y4.1.Steps)) fun y13 =>
    ob (spec_CheckKey.m N y3.1 y2 (MapProof.mk y4.1.Found y4.1.Key (y4.1.Value ++ (⟨#[120]⟩ : ByteArray)) y4.1.Steps)) fun y14 =>
    some (y13 == y14)
    else none
  else
  bif (bif false then true else false) then
    some false
  else
  ob (impl_CheckKey.m N y3.1 y2 y4.1) fun y15 =>
  bif (bif false then true else (y15 != (0:Int))) then
    some false
  else
  ob (spec_HashOf.m N a1) fun y16 =>
  bif (!seq y16 y3.1) then
    ob (impl_CheckKey.m N y16 y2 y4.1) fun y17 =>
    bif (bif true then (y17 == (0:Int)) else false) then
      some false
    else
    bif (seq y4.1.Key ByteArray.empty) then
      some true
    else
    bif (decide (y4.1.Value.size + (⟨#[120]⟩ : ByteArray).size ≤ 9223372036854775807)) then
    bif (decide (((y4.1.Value ++ (⟨#[120]⟩ : ByteArray)).size : Int) > (60:Int))) then
      some true
    else
    ob (impl_CheckKey.m N y3.1 y2 (MapProof.mk y4.1.Found y4.1.Key (y4.1.Value ++ (⟨#[120]⟩ : ByteArray)) y4.1.Steps)) fun y18 =>
    ob (spec_CheckKey.m N y3.1 y2 (MapProof.mk y4.1.Found y4.1.Key (y4.1.Value ++ (⟨#[120]⟩ : ByteArray)) y4.1.Steps)) fun y19 =>
    some (y18 == y19)
    else none
  else
  bif (seq y4.1.Key ByteArray.empty) then
    some true
  else
  bif (decide (y4.1.Value.size + (⟨#[120]⟩ : ByteArray).size ≤ 9223372036854775807)) then
  bif (decide (((y4.1.Value ++ (⟨#[120]⟩ : ByteArray)).size : Int) > (60:Int))) then
    some true
  else
  ob (impl_CheckKey.m N y3.1 y2 (MapProof.mk y4.1.Found y4.1.Key (y4.1.Value ++ (⟨#[120]⟩ : ByteArray)) y4.1.Steps)) fun y20 =>
  ob (spec_CheckKey.m N y3.1 y2 (MapProof.mk y4.1.Found y4.1.Key (y4.1.Value ++ (⟨#[120]⟩ : ByteArray)) y4.1.Steps)) fun y21 =>
  some (y20 == y21)
  else none
@[reducible] noncomputable def sp (N : Nat) : Spec E := { ps := [.val (.slice 5 (.int .u8)), .val (.slice 5 (.int .u8))], rs := [.bool], own := true, dp := false, R := R, fn := fun x => m N x.1 x.2.1, res := fun r => (r, ()), out := fun r => ((), (), ()), shut := fun a b => a.1, res_shut := fun _ _ => rfl, out_shut := fun _ _ => rfl }
end laws_FnMapProofs
end Mir.Y
