/- Models of functions. -/
import Derived.Test.YtojpcjbdehoibaaIM1
namespace Mir.Y
set_option linter.unusedVariables false
set_option maxRecDepth 10000
open Go Go.Proofs Mir
/-! ### spec_l03Step: loop.example/g00220/spec.l03Step -/
namespace spec_l03Step
abbrev R := Disk × Int
noncomputable def m (N : Nat) (a0 : Disk) (a1 : FileAct) : Option R :=
  bif (a1.Kind == (1:Int)) then
    ob (spec_l03Append.m N a0 a1) fun y1 =>
    some (y1.1, y1.2)
  else
  bif (a1.Kind == (5:Int)) then
    ob (spec_l03Crash.m N a0 a1.Keep) fun y2 =>
    some (y2, (0:Int))
  else
  bif (a1.Kind == (2:Int)) then
    ob (spec_l03Find.m N a0 a1.Name) fun y3 =>
    bif (decide (y3 < (0:Int))) then
      some (a0, (5:Int))
    else
    bif (decide (0 ≤ y3)) then
    bif (decide (y3 < (a0.Files.length : Int))) then
    bif (a1.Kind == (2:Int)) then
      ob (spec_l03Put.m N a0 (File.mk ((a0.Files.getD (Int.toNat y3) File.dz).Name) ((a0.Files.getD (Int.toNat y3) File.dz).Data) (((a0.Files.getD (Int.toNat y3) File.dz).Data).size : Int))) fun y4 =>
      some (y4, (0:Int))
    else
    bif (a1.Kind == (4:Int)) then
      ob (spec_l03Without.m N a0 y3) fun y5 =>
      some (y5, (0:Int))
    else
    bif (a1.Kind == (6:Int)) then
      ob (spec_l01In.m N a1.N (0:Int) (((a0.Files.getD (Int.toNat y3) File.dz).Data).size : Int)) fun y6 =>
      bif (!y6) then
        some (a0, (4:Int))
      else
      bif (decide (0 ≤ a1.N)) then
      bif (decide (a1.N ≤ ((((a0.Files.getD (Int.toNat y3) File.dz).Data).size : Nat) : Int))) then
      ob (spec_l03Put.m N a0 (File.mk ((a0.Files.getD (Int.toNat y3) File.dz).Name) (((a0.Files.getD (Int.toNat y3) File.dz).Data).extract 0 (Int.toNat a1.N)) (if a1.N < (a0.Files.getD (Int.toNat y3) File.dz).Sure then a1.N else (a0.Files.getD (Int.toNat y3) File.dz).Sure))) fun y7 =>
      some (y7, (0:Int))
      else none
      else none
    else
    ob (spec_NameOK.m N a1.To) fun y8 =>
    bif (!y8) then
      some (a0, (1:Int))
    else
    ob (spec_l03Without.m N a0 y3) fun y9 =>
    ob (spec_l03Put.m N y9 (File.mk a1.To ((a0.Files.getD (Int.toNat y3) File.dz).Data) ((a0.Files.getD (Int.toNat y3) File.dz).Sure))) fun y10 =>
    some (y10, (0:Int))
    else none
    else none
  else
  bif (a1.Kind == (3:Int)) then
    ob (spec_l03Find.m N a0 a1.Name) fun y11 =>
    bif (decide (y11 < (0:Int))) then
      some (a0, (5:Int))
    else
    bif (decide (0 ≤ y11)) then
    bif (decide (y11 < (a0.Files.length : Int))) then
    bif (a1.Kind == (2:Int)) then
      ob (spec_l03Put.m N a0 (File.mk ((a0.Files.getD (Int.toNat y11) File.dz).Name) ((a0.Files.getD (Int.toNat y11) File.dz).Data) (((a0.Files.getD (Int.toNat y11) File.dz).Data).size : Int))) fun y12 =>
      some (y12, (0:Int))
    else
    bif (a1.Kind == (4:Int)) then
      ob (spec_l03Without.m N a0 y11) fun y13 =>
      some (y13, (0:Int))
    else
    bif (a1.Kind == (6:Int)) then
      ob (spec_l01In.m N a1.N (0:Int) (((a0.Files.getD (Int.toNat y11) File.dz).Data).size : Int)) fun y14 =>
      bif (!y14) then
        some (a0, (4:Int))
      else
      bif (decide (0 ≤ a1.N)) then
      bif (decide (a1.N ≤ ((((a0.Files.getD (Int.toNat y11) File.dz).Data).size : Nat) : Int))) then
      ob (spec_l03Put.m N a0 (File.mk ((a0.Files.getD (Int.toNat y11) File.dz).Name) (((a0.Files.getD (Int.toNat y11) File.dz).Data).extract 0 (Int.toNat a1.N)) (if a1.N < (a0.Files.getD (Int.toNat y11) File.dz).Sure then a1.N else (a0.Files.getD (Int.toNat y11) File.dz).Sure))) fun y15 =>
      some (y15, (0:Int))
      else none
      else none
    else
    ob (spec_NameOK.m N a1.To) fun y16 =>
    bif (!y16) then
      some (a0, (1:Int))
    else
    ob (spec_l03Without.m N a0 y11) fun y17 =>
    ob (spec_l03Put.m N y17 (File.mk a1.To ((a0.Files.getD (Int.toNat y11) File.dz).Data) ((a0.Files.getD (Int.toNat y11) File.dz).Sure))) fun y18 =>
    some (y18, (0:Int))
    else none
    else none
  else
  bif (a1.Kind == (4:Int)) then
    ob (spec_l03Find.m N a0 a1.Name) fun y19 =>
    bif (decide (y19 < (0:Int))) then
      some (a0, (5:Int))
    else
    bif (decide (0 ≤ y19)) then
    bif (decide (y19 < (a0.Files.length : Int))) then
    bif (a1.Kind == (2:Int)) then
      ob (spec_l03Put.m N a0 (File.mk ((a0.Files.getD (Int.toNat y19) File.dz).Name) ((a0.Files.getD (Int.toNat y19) File.dz).Data) (((a0.Files.getD (Int.toNat y19) File.dz).Data).size : Int))) fun y20 =>
      some (y20, (0:Int))
    else
    bif (a1.Kind == (4:Int)) then
      ob (spec_l03Without.m N a0 y19) fun y21 =>
      some (y21, (0:Int))
    else
    bif (a1.Kind == (6:Int)) then
      ob (spec_l01In.m N a1.N (0:Int) (((a0.Files.getD (Int.toNat y19) File.dz).Data).size : Int)) fun y22 =>
      bif (!y22) then
        some (a0, (4:Int))
      else
      bif (decide (0 ≤ a1.N)) then
      bif (decide (a1.N ≤ ((((a0.Files.getD (Int.toNat y19) File.dz).Data).size : Nat) : Int))) then
      ob (spec_l03Put.m N a0 (File.mk ((a0.Files.getD (Int.toNat y19) File.dz).Name) (((a0.Files.getD (Int.toNat y19) File.dz).Data).extract 0 (Int.toNat a1.N)) (if a1.N < (a0.Files.getD (Int.toNat y19) File.dz).Sure then a1.N else (a0.Files.getD (Int.toNat y19) File.dz).Sure))) fun y23 =>
      some (y23, (0:Int))
      else none
      else none
    else
    ob (spec_NameOK.m N a1.To) fun y24 =>
    bif (!y24) then
      some (a0, (1:Int))
    else
    ob (spec_l03Without.m N a0 y19) fun y25 =>
    ob (spec_l03Put.m N y25 (File.mk a1.To ((a0.Files.getD (Int.toNat y19) File.dz).Data) ((a0.Files.getD (Int.toNat y19) File.dz).Sure))) fun y26 =>
    some (y26, (0:Int))
    else none
    else none
  else
  bif (a1.Kind == (6:Int)) then
    ob (spec_l03Find.m N a0 a1.Name) fun y27 =>
    bif (decide (y27 < (0:Int))) then
      some (a0, (5:Int))
    else
    bif (decide (0 ≤ y27)) then
    bif (decide (y27 < (a0.Files.length : Int))) then
    bif (a1.Kind == (2:Int)) then
      ob (spec_l03Put.m N a0 (File.mk ((a0.Files.getD (Int.toNat y27) File.dz).Name) ((a0.Files.getD (Int.toNat y27) File.dz).Data) (((a0.Files.getD (Int.toNat y27) File.dz).Data).size : Int))) fun y28 =>
      some (y28, (0:Int))
    else
    bif (a1.Kind == (4:Int)) then
      ob (spec_l03Without.m N a0 y27) fun y29 =>
      some (y29, (0:Int))
    else
    bif (a1.Kind == (6:Int)) then
      ob (spec_l01In.m N a1.N (0:Int) (((a0.Files.getD (Int.toNat y27) File.dz).Data).size : Int)) fun y30 =>
      bif (!y30) then
        some (a0, (4:Int))
      else
      bif (decide (0 ≤ a1.N)) then
      bif (decide (a1.N ≤ ((((a0.Files.getD (Int.toNat y27) File.dz).Data).size : Nat) : Int))) then
      ob (spec_l03Put.m N a0 (File.mk ((a0.Files.getD (Int.toNat y27) File.dz).Name) (((a0.Files.getD (Int.toNat y27) File.dz).Data).extract 0 (Int.toNat a1.N)) (if a1.N < (a0.Files.getD (Int.toNat y27) File.dz).Sure then a1.N else (a0.Files.getD (Int.toNat y27) File.dz).Sure))) fun y31 =>
      some (y31, (0:Int))
      else none
      else none
    else
    ob (spec_NameOK.m N a1.To) fun y32 =>
    bif (!y32) then
      some (a0, (1:Int))
    else
    ob (spec_l03Without.m N a0 y27) fun y33 =>
    ob (spec_l03Put.m N y33 (File.mk a1.To ((a0.Files.getD (Int.toNat y27) File.dz).Data) ((a0.Files.getD (Int.toNat y27) File.dz).Sure))) fun y34 =>
    some (y34, (0:Int))
    else none
    else none
  else
  some (a0, (3:Int))
@[reducible] noncomputable def sp (N : Nat) : Spec E := { ps := [.val (.st 27), .val (.st 40)], rs := [(.st 27), (.int .i64)], own := false, dp := false, R := R, fn := fun x => m N x.1 x.2.1, res := fun r => (r.1, r.2, ()), out := fun r => ((), (), ()), shut := fun a b => (a.1, a.2.1), res_shut := fun _ _ => rfl, out_shut := fun _ _ => rfl }
end spec_l03Step
/-! ### spec_FileRun: loop.example/g00220/spec.FileRun -/
namespace spec_FileRun
abbrev R := Disk × (List Int) × Int
inductive A10 where
  | s0 (v1 : Int) (v2 : Int) (v3 : Int) (v4 : List File) (v5 : List Int)
  | s1 (v1 : Int) (v2 : Int) (v3 : Int) (v4 : List File) (v5 : List Int)
noncomputable def step10 (N : Nat) (a0 : Int) (a1 : List FileAct) (rec : A10 → Option R) : A10 → Option R
  | .s0 v1 v2 v3 v4 v5 =>
    bif (decide (v1 < (a1.length : Int))) then
      bif (decide (0 ≤ v1)) then
      bif (decide (v1 < (a1.length : Int))) then
      bif (decide ((((a1.getD (Int.toNat v1) FileAct.dz).Name).size : Int) > (65536:Int))) then
        some ((Disk.mk (0:Int) ([] : List File)), ([] : List Int), (2:Int))
      else
      bif (bif false then true else (decide ((((a1.getD (Int.toNat v1) FileAct.dz).To).size : Int) > (65536:Int)))) then
        some ((Disk.mk (0:Int) ([] : List File)), ([] : List Int), (2:Int))
      else
      bif (bif false then true else (decide ((((a1.getD (Int.toNat v1) FileAct.dz).Data).size : Int) > (65536:Int)))) then
        some ((Disk.mk (0:Int) ([] : List File)), ([] : List Int), (2:Int))
      else
      bif (bif false then true else (decide ((((a1.getD (Int.toNat v1) FileAct.dz).Keep).length : Int) > (4096:Int)))) then
        some ((Disk.mk (0:Int) ([] : List File)), ([] : List Int), (2:Int))
      else
      ob (spec_l03Step.m N (Disk.mk v3 v4) (a1.getD (Int.toNat v1) FileAct.dz)) fun y2 =>
      bif (room (v5.length + ([y2.2]).length) 8) then
      rec (.s1 (w64 (v1 + (1:Int))) v2 y2.1.Room y2.1.Files (v5 ++ [y2.2]))
      else none
      else none
      else none
    else
    ob (spec_l03Own.m N (Disk.mk v3 v4)) fun y3 =>
    some (y3, v5, (0:Int))
  | .s1 v1 v2 v3 v4 v5 =>
    bif (decide (v1 < (a1.length : Int))) then
      bif (decide (0 ≤ v1)) then
      bif (decide (v1 < (a1.length : Int))) then
      bif (decide ((((a1.getD (Int.toNat v1) FileAct.dz).Name).size : Int) > (65536:Int))) then
        some ((Disk.mk (0:Int) ([] : List File)), ([] : List Int), (2:Int))
      else
      bif (bif false then true else (decide ((((a1.getD (Int.toNat v1) FileAct.dz).To).size : Int) > (65536:Int)))) then
        some ((Disk.mk (0:Int) ([] : List File)), ([] : List Int), (2:Int))
      else
      bif (bif false then true else (decide ((((a1.getD (Int.toNat v1) FileAct.dz).Data).size : Int) > (65536:Int)))) then
        some ((Disk.mk (0:Int) ([] : List File)), ([] : List Int), (2:Int))
      else
      bif (bif false then true else (decide ((((a1.getD (Int.toNat v1) FileAct.dz).Keep).length : Int) > (4096:Int)))) then
        some ((Disk.mk (0:Int) ([] : List File)), ([] : List Int), (2:Int))
      else
      ob (spec_l03Step.m N (Disk.mk v3 v4) (a1.getD (Int.toNat v1) FileAct.dz)) fun y4 =>
      bif (room (v5.length + ([y4.2]).length) 8) then
      rec (.s1 (w64 (v1 + (1:Int))) v2 y4.1.Room y4.1.Files (v5 ++ [y4.2]))
      else none
      else none
      else none
    else
    ob (spec_l03Own.m N (Disk.mk v3 v4)) fun y5 =>
    some (y5, v5, (0:Int))
noncomputable def lp10 (N : Nat) (a0 : Int) (a1 : List FileAct) : A10 → Option R :=
  miter (fun rec => step10 N a0 a1 rec) N
noncomputable def m (N : Nat) (a0 : Int) (a1 : List FileAct) : Option R :=
  bif (decide ((a1.length : Int) > (4096:Int))) then
    some ((Disk.mk (0:Int) ([] : List File)), ([] : List Int), (2:Int))
  else
  ob (spec_NewDisk.m N a0) fun y1 =>
  bif (y1.2 != (0:Int)) then
    some ((Disk.mk (0:Int) ([] : List File)), ([] : List Int), y1.2)
  else
  bif (decide ((a1.length : Int) > (120:Int))) then
    some ((Disk.mk (0:Int) ([] : List File)), ([] : List Int), (6:Int))
  else
  lp10 N a0 a1 (.s0 (0:Int) (0:Int) y1.1.Room y1.1.Files ([] : List Int))
@[reducible] noncomputable def sp (N : Nat) : Spec E := { ps := [.val (.int .i64), .val (.slice 40 (.st 40))], rs := [(.st 27), (.slice 3 (.int .i64)), (.int .i64)], own := true, dp := false, R := R, fn := fun x => m N x.1 x.2.1, res := fun r => (r.1, r.2.1, r.2.2, ()), out := fun r => ((), (), ()), shut := fun a b => (a.1, a.2.1, a.2.2.1), res_shut := fun _ _ => rfl, out_shut := fun _ _ => rfl }
end spec_FileRun
/-! ### impl_DiskOK: loop.example/g00220/impl.DiskOK -/
namespace impl_DiskOK
abbrev R := Bool
noncomputable def step4 (N : Nat) (a0 : Disk) (rec : (Int × Int) → Option R) : (Int × Int) → Option R
  | (v1, v2) =>
    bif (decide (v2 < v1)) then
      bif (decide (0 ≤ v2)) then
      bif (decide (v2 < (a0.Files.length : Int))) then
      ob (impl_NameOK.m N ((a0.Files.getD (Int.toNat v2) File.dz).Name)) fun y3 =>
      bif (!y3) then
        some false
      else
      bif (decide (v2 > (0:Int))) then
        bif (decide (0 ≤ (w64 (v2 - (1:Int))))) then
        bif (decide ((w64 (v2 - (1:Int))) < (a0.Files.length : Int))) then
        (let w4 : Bool := (bif true then (!slt ((a0.Files.getD (Int.toNat (w64 (v2 - (1:Int)))) File.dz).Name) ((a0.Files.getD (Int.toNat v2) File.dz).Name)) else false)
        bif (bif false then true else w4) then
          some false
        else
        ob (impl_within.m N ((a0.Files.getD (Int.toNat v2) File.dz).Sure) (0:Int) (((a0.Files.getD (Int.toNat v2) File.dz).Data).size : Int)) fun y5 =>
        bif (bif false then true else (!y5)) then
          some false
        else
        rec (v1, (w64 (v2 + (1:Int)))))
        else none
        else none
      else
      bif (bif false then true else false) then
        some false
      else
      ob (impl_within.m N ((a0.Files.getD (Int.toNat v2) File.dz).Sure) (0:Int) (((a0.Files.getD (Int.toNat v2) File.dz).Data).size : Int)) fun y6 =>
      bif (bif false then true else (!y6)) then
        some false
      else
      rec (v1, (w64 (v2 + (1:Int))))
      else none
      else none
    else
    some true
noncomputable def lp4 (N : Nat) (a0 : Disk) : (Int × Int) → Option R :=
  miter (fun rec => step4 N a0 rec) N
noncomputable def m (N : Nat) (a0 : Disk) : Option R :=
  ob (impl_within.m N a0.Room (0:Int) (3000:Int)) fun y1 =>
  bif (!y1) then
    some false
  else
  bif (bif false then true else (decide ((a0.Files.length : Int) > (8:Int)))) then
    some false
  else
  ob (impl_Disk_used.m N a0) fun y2 =>
  bif (bif false then true else (decide (y2 > a0.Room))) then
    some false
  else
  lp4 N a0 ((a0.Files.length : Int), (0:Int))
@[reducible] noncomputable def sp (N : Nat) : Spec E := { ps := [.val (.st 27)], rs := [.bool], own := true, dp := false, R := R, fn := fun x => m N x.1, res := fun r => (r, ()), out := fun r => ((), ()), shut := fun a b => a.1, res_shut := fun _ _ => rfl, out_shut := fun _ _ => rfl }
end impl_DiskOK
/-! ### impl_DiskUsed: loop.example/g00220/impl.DiskUsed -/
namespace impl_DiskUsed
abbrev R := Int × Int
noncomputable def m (N : Nat) (a0 : Disk) : Option R :=
  ob (impl_DiskOK.m N a0) fun y1 =>
  bif (!y1) then
    some ((0:Int), (1:Int))
  else
  ob (impl_Disk_used.m N a0) fun y2 =>
  some (y2, (0:Int))
@[reducible] noncomputable def sp (N : Nat) : Spec E := { ps := [.val (.st 27)], rs := [(.int .i64), (.int .i64)], own := true, dp := false, R := R, fn := fun x => m N x.1, res := fun r => (r.1, r.2, ()), out := fun r => ((), ()), shut := fun a b => (a.1, a.2.1), res_shut := fun _ _ => rfl, out_shut := fun _ _ => rfl }
end impl_DiskUsed
/-! ### laws_sameInts: loop.example/g00220/laws.sameInts -/
namespace laws_sameInts
abbrev R := Bool
noncomputable def step4 (N : Nat) (a0 : List Int) (a1 : List Int) (rec : Int → Option R) : Int → Option R
  | v2 =>
    bif (decide (v2 < (a0.length : Int))) then
      bif (decide (0 ≤ v2)) then
      bif (decide (v2 < (a0.length : Int))) then
      bif (decide (0 ≤ v2)) then
      bif (decide (v2 < (a1.length : Int))) then
      bif ((a0.getD (Int.toNat v2) (0:Int)) != (a1.getD (Int.toNat v2) (0:Int))) then
        some false
      else
      rec (w64 (v2 + (1:Int)))
      else none
      else none
      else none
      else none
    else
    some true
noncomputable def lp4 (N : Nat) (a0 : List Int) (a1 : List Int) : Int → Option R :=
  miter (fun rec => step4 N a0 a1 rec) N
noncomputable def m (N : Nat) (a0 : List Int) (a1 : List Int) : Option R :=
  bif ((a0.length : Int) != (a1.length : Int)) then
    some false
  else
  lp4 N a0 a1 (0:Int)
@[reducible] noncomputable def sp (N : Nat) : Spec E := { ps := [.val (.slice 3 (.int .i64)), .val (.slice 3 (.int .i64))], rs := [.bool], own := true, dp := false, R := R, fn := fun x => m N x.1 x.2.1, res := fun r => (r, ()), out := fun r => ((), (), ()), shut := fun a b => a.1, res_shut := fun _ _ => rfl, out_shut := fun _ _ => rfl }
end laws_sameInts
/-! ### laws_sameDisk: loop.example/g00220/laws.sameDisk -/
namespace laws_sameDisk
abbrev R := Bool
noncomputable def step4 (N : Nat) (a0 : Disk) (a1 : Disk) (rec : Int → Option R) : Int → Option R
  | v0 =>
    bif (decide (v0 < (a0.Files.length : Int))) then
      bif (decide (0 ≤ v0)) then
      bif (decide (v0 < (a0.Files.length : Int))) then
      bif (decide (0 ≤ v0)) then
      bif (decide (v0 < (a1.Files.length : Int))) then
      (let w1 : Bool := (!((seq ((a0.Files.getD (Int.toNat v0) File.dz).Name) ((a1.Files.getD (Int.toNat v0) File.dz).Name)) && ((seq ((a0.Files.getD (Int.toNat v0) File.dz).Data) ((a1.Files.getD (Int.toNat v0) File.dz).Data)) && ((a0.Files.getD (Int.toNat v0) File.dz).Sure == (a1.Files.getD (Int.toNat v0) File.dz).Sure))))
      bif w1 then
        some false
      else
      rec (w64 (v0 + (1:Int))))
      else none
      else none
      else none
      else none
    else
    some true
noncomputable def lp4 (N : Nat) (a0 : Disk) (a1 : Disk) : Int → Option R :=
  miter (fun rec => step4 N a0 a1 rec) N
noncomputable def m (N : Nat) (a0 : Disk) (a1 : Disk) : Option R :=
  bif (a0.Room != a1.Room) then
    some false
  else
  bif (bif false then true else ((a0.Files.length : Int) != (a1.Files.length : Int))) then
    some false
  else
  lp4 N a0 a1 (0:Int)
@[reducible] noncomputable def sp (N : Nat) : Spec E := { ps := [.val (.st 27), .val (.st 27)], rs := [.bool], own := true, dp := false, R := R, fn := fun x => m N x.1 x.2.1, res := fun r => (r, ()), out := fun r => ((), (), ()), shut := fun a b => a.1, res_shut := fun _ _ => rfl, out_shut := fun _ _ => rfl }
end laws_sameDisk
/-! ### laws_at: loop.example/g00220/laws.at -/
namespace laws_at
abbrev R := Int
noncomputable def m (N : Nat) (a0 : List Int) (a1 : Int) (a2 : Int) : Option R :=
  bif (decide (a2 ≤ (1:Int))) then
    some (0:Int)
  else
  bif ((a0.length : Int) == (0:Int)) then
    bif (!decide (a2 = 0)) then
    some (Int.tmod (w64 (a1 * (7:Int))) a2)
    else none
  else
  bif (!decide ((a0.length : Int) = 0)) then
  bif (decide (0 ≤ (Int.tmod a1 (a0.length : Int)))) then
  bif (decide ((Int.tmod a1 (a0.length : Int)) < (a0.length : Int))) then
  bif (!decide ((a0.length : Int) = 0)) then
  bif (decide (0 ≤ (Int.tmod (w64 (a1 + (1:Int))) (a0.length : Int)))) then
  bif (decide ((Int.tmod (w64 (a1 + (1:Int))) (a0.length : Int)) < (a0.length : Int))) then
  (let w1 : Int := (w64 ((w64 ((w64 (a0.getD (Int.toNat (Int.tmod a1 (a0.length : Int))) (0:Int))) * (31:Int))) + (w64 (a0.getD (Int.toNat (Int.tmod (w64 (a1 + (1:Int))) (a0.length : Int))) (0:Int)))))
  bif (!decide ((a0.length : Int) = 0)) then
  bif (!decide (a2 = 0)) then
  some (Int.tmod (w64 (w1 + (w64 (Int.tdiv a1 (a0.length : Int))))) a2)
  else none
  else none)
  else none
  else none
  else none
  else none
  else none
  else none
@[reducible] noncomputable def sp (N : Nat) : Spec E := { ps := [.val (.slice 5 (.int .u8)), .val (.int .i64), .val (.int .i64)], rs := [(.int .i64)], own := true, dp := false, R := R, fn := fun x => m N x.1 x.2.1 x.2.2.1, res := fun r => (r, ()), out := fun r => ((), (), (), ()), shut := fun a b => a.1, res_shut := fun _ _ => rfl, out_shut := fun _ _ => rfl }
end laws_at
/-! ### impl_FileStep: loop.example/g00220/impl.FileStep -/
namespace impl_FileStep
abbrev R := Disk × Int
noncomputable def m (N : Nat) (a0 : Disk) (a1 : FileAct) : Option R :=
  ob (impl_DiskOK.m N a0) fun y1 =>
  bif (!y1) then
    some ((Disk.mk (0:Int) ([] : List File)), (1:Int))
  else
  ob (impl_step.m N a0 a1) fun y2 =>
  some (y2.1, y2.2)
@[reducible] noncomputable def sp (N : Nat) : Spec E := { ps := [.val (.st 27), .val (.st 40)], rs := [(.st 27), (.int .i64)], own := true, dp := false, R := R, fn := fun x => m N x.1 x.2.1, res := fun r => (r.1, r.2, ()), out := fun r => ((), (), ()), shut := fun a b => (a.1, a.2.1), res_shut := fun _ _ => rfl, out_shut := fun _ _ => rfl }
end impl_FileStep
/-! ### impl_isText_1: loop.example/g00220/impl.isText$1 -/
namespace impl_isText_1
abbrev R := Bool
noncomputable def m (N : Nat) (a0 : ByteArray) : Option R :=
  some (decide ((a0.size : Int) > (65536:Int)))
@[reducible] noncomputable def sp (N : Nat) : Spec E := { ps := [.val .str], rs := [.bool], own := true, dp := false, R := R, fn := fun x => m N x.1, res := fun r => (r, ()), out := fun r => ((), ()), shut := fun a b => a.1, res_shut := fun _ _ => rfl, out_shut := fun _ _ => rfl }
end impl_isText_1
/-! ### slices_IndexFunc_string_string__impl_isText_1: slices.IndexFunc[[]string,string] -/
namespace slices_IndexFunc_string_string__impl_isText_1
abbrev R := Int
noncomputable def step2 (N : Nat) (a0 : List ByteArray) (rec : (Int × Int) → Option R) : (Int × Int) → Option R
  | (v1, v2) =>
    bif (decide (v2 < v1)) then
      bif (decide (0 ≤ v2)) then
      bif (decide (v2 < (a0.length : Int))) then
      ob (impl_isText_1.m N (a0.getD (Int.toNat v2) ByteArray.empty)) fun y1 =>
      bif y1 then
        some v2
      else
      rec (v1, (w64 (v2 + (1:Int))))
      else none
      else none
    else
    some (-1:Int)
noncomputable def lp2 (N : Nat) (a0 : List ByteArray) : (Int × Int) → Option R :=
  miter (fun rec => step2 N a0 rec) N
noncomputable def m (N : Nat) (a0 : List ByteArray) : Option R :=
  lp2 N a0 ((a0.length : Int), (0:Int))
@[reducible] noncomputable def sp (N : Nat) : Spec E := { ps := [.val (.slice 9 .str), .clo 154 []], rs := [(.int .i64)], own := true, dp := false, R := R, fn := fun x => m N x.1, res := fun r => (r, ()), out := fun r => ((), (), ()), shut := fun a b => a.1, res_shut := fun _ _ => rfl, out_shut := fun _ _ => rfl }
end slices_IndexFunc_string_string__impl_isText_1
/-! ### slices_ContainsFunc_string_string__impl_isText_1: slices.ContainsFunc[[]string,string] -/
namespace slices_ContainsFunc_string_string__impl_isText_1
abbrev R := Bool
noncomputable def m (N : Nat) (a0 : List ByteArray) : Option R :=
  ob (slices_IndexFunc_string_string__impl_isText_1.m N a0) fun y1 =>
  some (decide (y1 ≥ (0:Int)))
@[reducible] noncomputable def sp (N : Nat) : Spec E := { ps := [.val (.slice 9 .str), .clo 154 []], rs := [.bool], own := true, dp := false, R := R, fn := fun x => m N x.1, res := fun r => (r, ()), out := fun r => ((), (), ()), shut := fun a b => a.1, res_shut := fun _ _ => rfl, out_shut := fun _ _ => rfl }
end slices_ContainsFunc_string_string__impl_isText_1
/-! ### impl_isText: loop.example/g00220/impl.isText -/
namespace impl_isText
abbrev R := Bool
noncomputable def m (N : Nat) (a0 : List ByteArray) : Option R :=
  ob (slices_ContainsFunc_string_string__impl_isText_1.m N a0) fun y1 =>
  some (!y1)
@[reducible] noncomputable def sp (N : Nat) : Spec E := { ps := [.val (.slice 9 .str)], rs := [.bool], own := true, dp := false, R := R, fn := fun x => m N x.1, res := fun r => (r, ()), out := fun r => ((), ()), shut := fun a b => a.1, res_shut := fun _ _ => rfl, out_shut := fun _ _ => rfl }
end impl_isText
/-! ### impl_FileData: loop.example/g00220/impl.FileData -/
namespace impl_FileData
abbrev R := ByteArray × Int
noncomputable def m (N : Nat) (a0 : Disk) (a1 : ByteArray) : Option R :=
  ob (impl_isText.m N ([a1])) fun y1 =>
  bif (!y1) then
    some (ByteArray.empty, (2:Int))
  else
  ob (impl_DiskOK.m N a0) fun y2 =>
  bif (!y2) then
    some (ByteArray.empty, (1:Int))
  else
  ob (impl_Disk_fileAt.m N a0 a1) fun y3 =>
  bif (!y3.2) then
    some (ByteArray.empty, (5:Int))
  else
  bif (decide (0 ≤ y3.1)) then
  bif (decide (y3.1 < (a0.Files.length : Int))) then
  some ((a0.Files.getD (Int.toNat y3.1) File.dz).Data, (0:Int))
  else none
  else none
@[reducible] noncomputable def sp (N : Nat) : Spec E := { ps := [.val (.st 27), .val .str], rs := [.str, (.int .i64)], own := true, dp := false, R := R, fn := fun x => m N x.1 x.2.1, res := fun r => (r.1, r.2, ()), out := fun r => ((), (), ()), shut := fun a b => (a.1, a.2.1), res_shut := fun _ _ => rfl, out_shut := fun _ _ => rfl }
end impl_FileData
/-! ### laws_FnFiles: loop.example/g00220/laws.FnFiles -/
namespace laws_FnFiles
abbrev R := Bool
noncomputable def step14 (N : Nat) (a0 : List Int) (a1 : List Int) (rec : (Int × Int × (List File) × Int × (List File)) → Option R) : (Int × Int × (List File) × Int × (List File)) → Option R
  | (v0, v1, v2, v3, v4) =>
    bif (decide (v0 < (v4.length : Int))) then
      bif (decide (0 ≤ v0)) then
      bif (decide (v0 < (v4.length : Int))) then
      bif (decide (0 ≤ v0)) then
      bif (decide (v0 < (v2.length : Int))) then
      ob (impl_FileData.m N (Disk.mk v3 v4) ((v4.getD (Int.toNat v0) File.dz).Name)) fun y12 =>
      bif (y12.2 != (0:Int)) then
        some false
      else
      bif (bif false then true else (!seq y12.1 ((v4.getD (Int.toNat v0) File.dz).Data))) then
        some false
      else
      bif (bif false then true else (!seq ((v4.getD (Int.toNat v0) File.dz).Name) ((v2.getD (Int.toNat v0) File.dz).Name))) then
        some false
      else
      bif (bif false then true else (decide ((((v4.getD (Int.toNat v0) File.dz).Data).size : Int) < (v2.getD (Int.toNat v0) File.dz).Sure))) then
        some false
      else
      (let w13 : Bool := (bif false then true else (decide ((((v4.getD (Int.toNat v0) File.dz).Data).size : Int) > (((v2.getD (Int.toNat v0) File.dz).Data).size : Int))))
      bif w13 then
        some false
      else
      bif (decide (0 ≤ (((v4.getD (Int.toNat v0) File.dz).Data).size : Int))) then
      bif (decide ((((v4.getD (Int.toNat v0) File.dz).Data).size : Int) ≤ ((((v2.getD (Int.toNat v0) File.dz).Data).size : Nat) : Int))) then
      (let w14 : Bool := (!seq ((v4.getD (Int.toNat v0) File.dz).Data) (((v2.getD (Int.toNat v0) File.dz).Data).extract 0 (Int.toNat (((v4.getD (Int.toNat v0) File.dz).Data).size : Int))))
      bif (bif false then true else w14) then
        some false
      else
      bif (bif false then true else ((v4.getD (Int.toNat v0) File.dz).Sure != (((v4.getD (Int.toNat v0) File.dz).Data).size : Int))) then
        some false
      else
      rec ((w64 (v0 + (1:Int))), v1, v2, v3, v4))
      else none
      else none)
      else none
      else none
      else none
      else none
    else
    ob (impl_FileStep.m N (Disk.mk v3 v4) (FileAct.mk (5:Int) (0:Int) ByteArray.empty ByteArray.empty ByteArray.empty ([] : List Int))) fun y15 =>
    bif (y15.2 == (0:Int)) then
      ob (laws_sameDisk.m N y15.1 (Disk.mk v3 v4)) fun y16 =>
      some (bif true then y16 else false)
    else
    some false
noncomputable def lp14 (N : Nat) (a0 : List Int) (a1 : List Int) : (Int × Int × (List File) × Int × (List File)) → Option R :=
  miter (fun rec => step14 N a0 a1 rec) N
noncomputable def m (N : Nat) (a0 : List Int) (a1 : List Int) : Option R :=
  bif (decide ((a0.length : Int) > (1048576:Int))) then
    some true
  else
  bif (bif false then true else (decide ((a1.length : Int) > (1048576:Int)))) then
    some true
  else
  ob (spec_FileActsOf.m N a0) fun y1 =>
  ob (impl_FileRun.m N (300:Int) y1) fun y2 =>
  ob (spec_FileRun.m N (300:Int) y1) fun y3 =>
  ob (impl_DiskUsed.m N y2.1) fun y4 =>
  bif (y2.2.2 != (0:Int)) then
    some false
  else
  ob (laws_sameInts.m N y2.2.1 y3.2.1) fun y5 =>
  bif (bif false then true else (!y5)) then
    some false
  else
  ob (laws_sameDisk.m N y2.1 y3.1) fun y6 =>
  bif (bif false then true else (!y6)) then
    some false
  else
  ob (impl_DiskOK.m N y2.1) fun y7 =>
  bif (bif false then true else (!y7)) then
    some false
  else
  bif (bif false then true else (y4.2 != (0:Int))) then
    some false
  else
  bif (bif false then true else (decide (y4.1 > (300:Int)))) then
    some false
  else
  ob (laws_at.m N a1 (0:Int) (30:Int)) fun y8 =>
  ob (laws_at.m N a1 (1:Int) (30:Int)) fun y9 =>
  ob (laws_at.m N a1 (2:Int) (9:Int)) fun y10 =>
  ob (impl_FileStep.m N y2.1 (FileAct.mk (5:Int) (0:Int) ByteArray.empty ByteArray.empty ByteArray.empty ([y8, (w64 (y9 - (3:Int))), y10]))) fun y11 =>
  bif (y11.2 != (0:Int)) then
    some false
  else
  bif (bif false then true else ((y11.1.Files.length : Int) != (y2.1.Files.length : Int))) then
    some false
  else
  lp14 N a0 a1 ((0:Int), y2.1.Room, y2.1.Files, y11.1.Room, y11.1.Files)
@[reducible] noncomputable def sp (N : Nat) : Spec E := { ps := [.val (.slice 5 (.int .u8)), .val (.slice 5 (.int .u8))], rs := [.bool], own := true, dp := false, R := R, fn := fun x => m N x.1 x.2.1, res := fun r => (r, ()), out := fun r => ((), (), ()), shut := fun a b => a.1, res_shut := fun _ _ => rfl, out_shut := fun _ _ => rfl }
end laws_FnFiles
end Mir.Y
