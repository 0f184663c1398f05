/- Models of functions. -/
import Derived.Test.YtigmgeablmomnaaVM1
namespace Mir.Y
set_option linter.unusedVariables false
set_option maxRecDepth 10000
open Go Go.Proofs Mir
/-! ### slices_IndexFunc_impl_Entry_impl_Entry__impl_configAllowed_1: slices.IndexFunc[[]loop.example/g00220/impl.Entry,loop.example/g00220/impl.Entry] -/
namespace slices_IndexFunc_impl_Entry_impl_Entry__impl_configAllowed_1
abbrev R := Int
noncomputable def step2 (N : Nat) (a0 : List Entry) (rec : (Int × Int) → Option R) : (Int × Int) → Option R
  | (v1, v2) =>
    bif (decide (v2 < v1)) then
      bif (decide (0 ≤ v2)) then
      bif (decide (v2 < (a0.length : Int))) then
      ob (impl_configAllowed_1.m N (a0.getD (Int.toNat v2) Entry.dz)) fun y1 =>
      bif y1 then
        some v2
      else
      rec (v1, (w64 (v2 + (1:Int))))
      else none
      else none
    else
    some (-1:Int)
noncomputable def lp2 (N : Nat) (a0 : List Entry) : (Int × Int) → Option R :=
  miter (fun rec => step2 N a0 rec) N
noncomputable def m (N : Nat) (a0 : List Entry) : Option R :=
  lp2 N a0 ((a0.length : Int), (0:Int))
@[reducible] noncomputable def sp (N : Nat) : Spec E := { ps := [.val (.slice 96 (.st 96)), .clo 154 []], rs := [(.int .i64)], own := true, dp := false, R := R, fn := fun x => m N x.1, res := fun r => (r, ()), out := fun r => ((), (), ()), shut := fun a b => a.1, res_shut := fun _ _ => rfl, out_shut := fun _ _ => rfl }
end slices_IndexFunc_impl_Entry_impl_Entry__impl_configAllowed_1
/-! ### slices_ContainsFunc_impl_Entry_impl_Entry__impl_configAllowed_1: slices.ContainsFunc[[]loop.example/g00220/impl.Entry,loop.example/g00220/impl.Entry] -/
namespace slices_ContainsFunc_impl_Entry_impl_Entry__impl_configAllowed_1
abbrev R := Bool
noncomputable def m (N : Nat) (a0 : List Entry) : Option R :=
  ob (slices_IndexFunc_impl_Entry_impl_Entry__impl_configAllowed_1.m N a0) fun y1 =>
  some (decide (y1 ≥ (0:Int)))
@[reducible] noncomputable def sp (N : Nat) : Spec E := { ps := [.val (.slice 96 (.st 96)), .clo 154 []], rs := [.bool], own := true, dp := false, R := R, fn := fun x => m N x.1, res := fun r => (r, ()), out := fun r => ((), (), ()), shut := fun a b => a.1, res_shut := fun _ _ => rfl, out_shut := fun _ _ => rfl }
end slices_ContainsFunc_impl_Entry_impl_Entry__impl_configAllowed_1
/-! ### impl_Node_termAt: (loop.example/g00220/impl.Node).termAt -/
namespace impl_Node_termAt
abbrev R := Int
noncomputable def m (N : Nat) (a0 : Node) (a1 : Int) : Option R :=
  bif (a1 == (0:Int)) then
    some (0:Int)
  else
  bif (decide (0 ≤ (w64 (a1 - (1:Int))))) then
  bif (decide ((w64 (a1 - (1:Int))) < (a0.Log.length : Int))) then
  some ((a0.Log.getD (Int.toNat (w64 (a1 - (1:Int)))) Entry.dz).Term)
  else none
  else none
@[reducible] noncomputable def sp (N : Nat) : Spec E := { ps := [.val (.st 25), .val (.int .i64)], rs := [(.int .i64)], own := true, dp := false, R := R, fn := fun x => m N x.1 x.2.1, res := fun r => (r, ()), out := fun r => ((), (), ()), shut := fun a b => a.1, res_shut := fun _ _ => rfl, out_shut := fun _ _ => rfl }
end impl_Node_termAt
/-! ### impl_configAllowed: loop.example/g00220/impl.configAllowed -/
namespace impl_configAllowed
abbrev R := Bool
noncomputable def step3 (N : Nat) (a0 : Node) (a1 : List Int) (rec : (Int × Int × (List Int)) → Option R) : (Int × Int × (List Int)) → Option R
  | (v1, v2, v16) =>
    bif (decide (v2 < (7:Int))) then
      ob (slices_Contains_int_int.m N v16 v2) fun y2 =>
      ob (slices_Contains_int_int.m N a1 v2) fun y3 =>
      bif (!(y2 == y3)) then
        rec ((w64 (v1 + (1:Int))), (w64 (v2 + (1:Int))), v16)
      else
      rec (v1, (w64 (v2 + (1:Int))), v16)
    else
    bif (decide (0 ≤ a0.Commit)) then
    bif (decide (a0.Commit ≤ ((a0.Log.length : Nat) : Int))) then
    ob (slices_ContainsFunc_impl_Entry_impl_Entry__impl_configAllowed_1.m N (a0.Log.drop (Int.toNat a0.Commit))) fun y4 =>
    bif (v1 == (1:Int)) then
      bif (bif true then (a0.Role == (2:Int)) else false) then
        bif (bif true then (decide (a0.Commit > (0:Int))) else false) then
          ob (impl_Node_termAt.m N a0 a0.Commit) fun y5 =>
          bif (bif true then (y5 == a0.Term) else false) then
            some (bif true then (!y4) else false)
          else
          some false
        else
        some false
      else
      some false
    else
    some false
    else none
    else none
noncomputable def lp3 (N : Nat) (a0 : Node) (a1 : List Int) : (Int × Int × (List Int)) → Option R :=
  miter (fun rec => step3 N a0 a1 rec) N
noncomputable def m (N : Nat) (a0 : Node) (a1 : List Int) : Option R :=
  ob (impl_Node_members.m N a0) fun y1 =>
  lp3 N a0 a1 ((0:Int), (0:Int), y1)
@[reducible] noncomputable def sp (N : Nat) : Spec E := { ps := [.val (.st 25), .val (.slice 3 (.int .i64))], rs := [.bool], own := true, dp := false, R := R, fn := fun x => m N x.1 x.2.1, res := fun r => (r, ()), out := fun r => ((), (), ()), shut := fun a b => a.1, res_shut := fun _ _ => rfl, out_shut := fun _ _ => rfl }
end impl_configAllowed
/-! ### impl_ConfigAllowed: loop.example/g00220/impl.ConfigAllowed -/
namespace impl_ConfigAllowed
abbrev R := Bool × Int
noncomputable def m (N : Nat) (a0 : Node) (a1 : List Int) : Option R :=
  ob (impl_isList_int.m N a1) fun y1 =>
  bif (!y1) then
    some (false, (2:Int))
  else
  ob (impl_NodeOK.m N a0) fun y2 =>
  bif (!y2) then
    some (false, (1:Int))
  else
  ob (impl_membersOK.m N a1) fun y3 =>
  bif (bif false then true else (!y3)) then
    some (false, (1:Int))
  else
  ob (impl_configAllowed.m N a0 a1) fun y4 =>
  some (y4, (0:Int))
@[reducible] noncomputable def sp (N : Nat) : Spec E := { ps := [.val (.st 25), .val (.slice 3 (.int .i64))], rs := [.bool, (.int .i64)], own := true, dp := false, R := R, fn := fun x => m N x.1 x.2.1, res := fun r => (r.1, r.2, ()), out := fun r => ((), (), ()), shut := fun a b => (a.1, a.2.1), res_shut := fun _ _ => rfl, out_shut := fun _ _ => rfl }
end impl_ConfigAllowed
/-! ### laws_FnExactConfigAllowed: loop.example/g00220/laws.FnExactConfigAllowed -/
namespace laws_FnExactConfigAllowed
abbrev R := Bool
noncomputable def m (N : Nat) (a0 : Node) (a1 : List Int) : Option R :=
  bif (decide ((a1.length : Int) > (1048576:Int))) then
    some true
  else
  ob (laws_szNode.m N a0 (1048576:Int)) fun y1 =>
  bif (decide (y1 < (0:Int))) then
    some true
  else
  ob (laws_toNode.m N a0) fun y2 =>
  ob (laws_toIntS.m N a1) fun y3 =>
  ob (spec_ConfigAllowed.m N y2 y3) fun y4 =>
  ob (laws_toNode.m N a0) fun y5 =>
  ob (laws_toIntS.m N a1) fun y6 =>
  ob (impl_ConfigAllowed.m N y5 y6) fun y7 =>
  bif (!(y7.1 == y4.1)) then
    some false
  else
  bif (bif false then true else (y7.2 != y4.2)) then
    some false
  else
  ob (laws_toNode.m N a0) fun y8 =>
  ob (laws_eqNode.m N y5 y8) fun y9 =>
  bif (!y9) then
    some false
  else
  ob (laws_toIntS.m N a1) fun y10 =>
  ob (laws_eqIntS.m N y6 y10) fun y11 =>
  bif (!y11) then
    some false
  else
  some true
@[reducible] noncomputable def sp (N : Nat) : Spec E := { ps := [.val (.st 36), .val (.slice 3 (.int .i64))], rs := [.bool], own := true, dp := false, R := R, fn := fun x => m N x.1 x.2.1, res := fun r => (r, ()), out := fun r => ((), (), ()), shut := fun a b => a.1, res_shut := fun _ _ => rfl, out_shut := fun _ _ => rfl }
end laws_FnExactConfigAllowed
end Mir.Y
