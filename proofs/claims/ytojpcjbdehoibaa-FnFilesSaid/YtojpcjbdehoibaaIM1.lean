/- Models of functions. -/
import Derived.Lib.Bytealg
import Derived.Test.YtojpcjbdehoibaaEngD
import Derived.Test.YtojpcjbdehoibaaIE
namespace Mir.Y
set_option linter.unusedVariables false
set_option maxRecDepth 10000
open Go Go.Proofs Mir
/-! ### spec_l00Source: loop.example/g00220/spec.l00Source -/
namespace spec_l00Source
abbrev R := l00Src
noncomputable def m (N : Nat) (a0 : List Int) : Option R :=
  bif (!decide ((1000:Int) = 0)) then
  some (l00Src.mk a0 (0:Int) (Int.tmod (a0.length : Int) (1000:Int)))
  else none
@[reducible] noncomputable def sp (N : Nat) : Spec E := { ps := [.val (.slice 5 (.int .u8))], rs := [(.pbx 179 179)], own := true, dp := false, R := R, fn := fun x => m N x.1, res := fun r => (r, ()), out := fun r => ((), ()), shut := fun a b => a.1, res_shut := fun _ _ => rfl, out_shut := fun _ _ => rfl }
end spec_l00Source
/-! ### spec_l00Src_size_: (*loop.example/g00220/spec.l00Src).size -/
namespace spec_l00Src_size_
abbrev R := Int
noncomputable def m (N : Nat) (a0 : l00Src) (a1 : Int) : Option R :=
  bif (!decide ((12:Int) = 0)) then
  (let w1 : Int := (if a1 < (w64 ((1:Int) + (w64 (Int.tdiv (a0.code.length : Int) (12:Int))))) then a1 else (w64 ((1:Int) + (w64 (Int.tdiv (a0.code.length : Int) (12:Int))))))
  some w1)
  else none
@[reducible] noncomputable def sp (N : Nat) : Spec E := { ps := [.cap (.rb (.st 179)), .val (.int .i64)], rs := [(.int .i64)], own := true, dp := false, R := R, fn := fun x => m N x.1 x.2.1, res := fun r => (r, ()), out := fun r => ((), (), ()), shut := fun a b => a.1, res_shut := fun _ _ => rfl, out_shut := fun _ _ => rfl }
end spec_l00Src_size_
/-! ### spec_l00Src_byte_: (*loop.example/g00220/spec.l00Src).byte -/
namespace spec_l00Src_byte_
abbrev R := Int × l00Src
noncomputable def m (N : Nat) (a0 : l00Src) : Option R :=
  bif (decide ((w64 (a0.«at» + (1:Int))) ≤ (a0.code.length : Int))) then
    bif (decide (0 ≤ (w64 ((w64 (a0.«at» + (1:Int))) - (1:Int))))) then
    bif (decide ((w64 ((w64 (a0.«at» + (1:Int))) - (1:Int))) < (a0.code.length : Int))) then
    bif (!decide ((2147483648:Int) = 0)) then
    (let w1 : Int := (Int.tmod (w64 ((w64 ((w64 (a0.seed * (31:Int))) + (w64 (a0.code.getD (Int.toNat (w64 ((w64 (a0.«at» + (1:Int))) - (1:Int)))) (0:Int))))) + (7:Int))) (2147483648:Int))
    bif (decide (0 ≤ (w64 ((w64 (a0.«at» + (1:Int))) - (1:Int))))) then
    bif (decide ((w64 ((w64 (a0.«at» + (1:Int))) - (1:Int))) < (a0.code.length : Int))) then
    some ((w64 (a0.code.getD (Int.toNat (w64 ((w64 (a0.«at» + (1:Int))) - (1:Int)))) (0:Int))), (l00Src.mk a0.code (w64 (a0.«at» + (1:Int))) w1))
    else none
    else none)
    else none
    else none
    else none
  else
  bif (decide ((w64 (a0.«at» + (1:Int))) > (3000:Int))) then
    some ((0:Int), (l00Src.mk a0.code (w64 (a0.«at» + (1:Int))) a0.seed))
  else
  bif (!decide ((2147483648:Int) = 0)) then
  bif (!decide ((65536:Int) = 0)) then
  bif (!decide ((256:Int) = 0)) then
  some ((Int.tmod (w64 (Int.tdiv (Int.tmod (w64 ((w64 (a0.seed * (1103515245:Int))) + (12345:Int))) (2147483648:Int)) (65536:Int))) (256:Int)), (l00Src.mk a0.code (w64 (a0.«at» + (1:Int))) (Int.tmod (w64 ((w64 (a0.seed * (1103515245:Int))) + (12345:Int))) (2147483648:Int))))
  else none
  else none
  else none
@[reducible] noncomputable def sp (N : Nat) : Spec E := { ps := [.box false 179 179], rs := [(.int .i64)], own := true, dp := false, R := R, fn := fun x => m N x.1, res := fun r => (r.1, ()), out := fun r => (r.2, ()), shut := fun a b => (a.1, b.1), res_shut := fun _ _ => rfl, out_shut := fun _ _ => rfl }
end spec_l00Src_byte_
/-! ### spec_l00Src_next_: (*loop.example/g00220/spec.l00Src).next -/
namespace spec_l00Src_next_
abbrev R := Int × l00Src
noncomputable def m (N : Nat) (a0 : l00Src) (a1 : Int) : Option R :=
  bif (decide (a1 ≤ (1:Int))) then
    some ((0:Int), a0)
  else
  bif (decide (a1 ≤ (256:Int))) then
    ob (spec_l00Src_byte_.m N a0) fun y1 =>
    bif (!decide (a1 = 0)) then
    some ((Int.tmod y1.1 a1), y1.2)
    else none
  else
  ob (spec_l00Src_byte_.m N a0) fun y2 =>
  ob (spec_l00Src_byte_.m N y2.2) fun y3 =>
  ob (spec_l00Src_byte_.m N y3.2) fun y4 =>
  bif (!decide (a1 = 0)) then
  some ((Int.tmod (w64 ((w64 ((w64 (y2.1 * (65536:Int))) + (w64 (y3.1 * (256:Int))))) + y4.1)) a1), y4.2)
  else none
@[reducible] noncomputable def sp (N : Nat) : Spec E := { ps := [.box false 179 179, .val (.int .i64)], rs := [(.int .i64)], own := true, dp := false, R := R, fn := fun x => m N x.1 x.2.1, res := fun r => (r.1, ()), out := fun r => (r.2, (), ()), shut := fun a b => (a.1, b.1), res_shut := fun _ _ => rfl, out_shut := fun _ _ => rfl }
end spec_l00Src_next_
/-! ### spec_l00Src_pick_: (*loop.example/g00220/spec.l00Src).pick -/
namespace spec_l00Src_pick_
abbrev R := ByteArray × l00Src
noncomputable def m (N : Nat) (a0 : l00Src) (a1 : List ByteArray) : Option R :=
  bif ((a1.length : Int) == (0:Int)) then
    some (ByteArray.empty, a0)
  else
  ob (spec_l00Src_next_.m N a0 (a1.length : Int)) fun y1 =>
  bif (decide (0 ≤ y1.1)) then
  bif (decide (y1.1 < (a1.length : Int))) then
  some ((a1.getD (Int.toNat y1.1) ByteArray.empty), y1.2)
  else none
  else none
@[reducible] noncomputable def sp (N : Nat) : Spec E := { ps := [.box false 179 179, .val (.slice 9 .str)], rs := [.str], own := true, dp := false, R := R, fn := fun x => m N x.1 x.2.1, res := fun r => (r.1, ()), out := fun r => (r.2, (), ()), shut := fun a b => (a.1, b.1), res_shut := fun _ _ => rfl, out_shut := fun _ _ => rfl }
end spec_l00Src_pick_
/-! ### spec_l00Src_fileName: (*loop.example/g00220/spec.l00Src).fileName -/
namespace spec_l00Src_fileName
abbrev R := ByteArray × l00Src
noncomputable def m (N : Nat) (a0 : l00Src) : Option R :=
  ob (spec_l00Src_pick_.m N a0 ([(⟨#[108, 111, 103]⟩ : ByteArray), (⟨#[115, 116, 97, 116, 101]⟩ : ByteArray), (⟨#[116, 101, 109, 112]⟩ : ByteArray)])) fun y1 =>
  some (y1.1, y1.2)
@[reducible] noncomputable def sp (N : Nat) : Spec E := { ps := [.box false 179 179], rs := [.str], own := true, dp := false, R := R, fn := fun x => m N x.1, res := fun r => (r.1, ()), out := fun r => (r.2, ()), shut := fun a b => (a.1, b.1), res_shut := fun _ _ => rfl, out_shut := fun _ _ => rfl }
end spec_l00Src_fileName
/-! ### spec_l00Src_fileActs: (*loop.example/g00220/spec.l00Src).fileActs -/
namespace spec_l00Src_fileActs
abbrev R := (List FileAct) × l00Src
noncomputable def step3 (N : Nat) (a0 : l00Src) (rec : (Int × (List Int) × Int × Int × (List FileAct)) → Option R) : (Int × (List Int) × Int × Int × (List FileAct)) → Option R
  | (v0, v1, v2, v3, v4) =>
    bif (decide (v0 > (0:Int))) then
      bif (bif true then (decide ((v4.length : Int) < (120:Int))) else false) then
        ob (spec_l00Src_fileName.m N (l00Src.mk v1 v2 v3)) fun y3 =>
        (let w4 : List ByteArray := [(⟨#[97, 98, 99]⟩ : ByteArray), (⟨#[100, 101, 102, 103, 104]⟩ : ByteArray), ByteArray.empty, (⟨#[48, 49, 50, 51, 52, 53, 54, 55, 56, 57]⟩ : ByteArray)]
        ob (spec_l00Src_pick_.m N y3.2 w4) fun y5 =>
        ob (spec_l00Src_next_.m N y5.2 (10:Int)) fun y6 =>
        bif (y6.1 == (0:Int)) then
          ob (spec_l00Src_fileName.m N y6.2) fun y7 =>
          bif (room (v4.length + ([(FileAct.mk (2:Int) (0:Int) y7.1 ByteArray.empty ByteArray.empty ([] : List Int))]).length) 88) then
          rec ((w64 (v0 - (1:Int))), y7.2.code, y7.2.«at», y7.2.seed, (v4 ++ [(FileAct.mk (2:Int) (0:Int) y7.1 ByteArray.empty ByteArray.empty ([] : List Int))]))
          else none
        else
        bif (y6.1 == (1:Int)) then
          ob (spec_l00Src_fileName.m N y6.2) fun y8 =>
          bif (room (v4.length + ([(FileAct.mk (2:Int) (0:Int) y8.1 ByteArray.empty ByteArray.empty ([] : List Int))]).length) 88) then
          rec ((w64 (v0 - (1:Int))), y8.2.code, y8.2.«at», y8.2.seed, (v4 ++ [(FileAct.mk (2:Int) (0:Int) y8.1 ByteArray.empty ByteArray.empty ([] : List Int))]))
          else none
        else
        bif (y6.1 == (2:Int)) then
          ob (spec_l00Src_fileName.m N y6.2) fun y9 =>
          ob (spec_l00Src_fileName.m N y9.2) fun y10 =>
          bif (room (v4.length + ([(FileAct.mk (3:Int) (0:Int) y9.1 y10.1 ByteArray.empty ([] : List Int))]).length) 88) then
          rec ((w64 (v0 - (1:Int))), y10.2.code, y10.2.«at», y10.2.seed, (v4 ++ [(FileAct.mk (3:Int) (0:Int) y9.1 y10.1 ByteArray.empty ([] : List Int))]))
          else none
        else
        bif (y6.1 == (3:Int)) then
          ob (spec_l00Src_next_.m N y6.2 (2:Int)) fun y11 =>
          bif (decide (0 ≤ y11.1)) then
          bif (decide (y11.1 < (([(4:Int), (6:Int)]).length : Int))) then
          ob (spec_l00Src_fileName.m N y11.2) fun y12 =>
          ob (spec_l00Src_next_.m N y12.2 (9:Int)) fun y13 =>
          bif (room (v4.length + ([(FileAct.mk (([(4:Int), (6:Int)]).getD (Int.toNat y11.1) (0:Int)) y13.1 y12.1 ByteArray.empty ByteArray.empty ([] : List Int))]).length) 88) then
          rec ((w64 (v0 - (1:Int))), y13.2.code, y13.2.«at», y13.2.seed, (v4 ++ [(FileAct.mk (([(4:Int), (6:Int)]).getD (Int.toNat y11.1) (0:Int)) y13.1 y12.1 ByteArray.empty ByteArray.empty ([] : List Int))]))
          else none
          else none
          else none
        else
        bif (y6.1 == (4:Int)) then
          ob (spec_l00Src_next_.m N y6.2 (9:Int)) fun y14 =>
          ob (spec_l00Src_next_.m N y14.2 (5:Int)) fun y15 =>
          ob (spec_l00Src_next_.m N y15.2 (30:Int)) fun y16 =>
          bif (room (v4.length + ([(FileAct.mk (5:Int) (0:Int) ByteArray.empty ByteArray.empty ByteArray.empty ([y14.1, (w64 (y15.1 - (1:Int))), y16.1]))]).length) 88) then
          rec ((w64 (v0 - (1:Int))), y16.2.code, y16.2.«at», y16.2.seed, (v4 ++ [(FileAct.mk (5:Int) (0:Int) ByteArray.empty ByteArray.empty ByteArray.empty ([y14.1, (w64 (y15.1 - (1:Int))), y16.1]))]))
          else none
        else
        bif (room (v4.length + ([(FileAct.mk (1:Int) (0:Int) y3.1 ByteArray.empty y5.1 ([] : List Int))]).length) 88) then
        rec ((w64 (v0 - (1:Int))), y6.2.code, y6.2.«at», y6.2.seed, (v4 ++ [(FileAct.mk (1:Int) (0:Int) y3.1 ByteArray.empty y5.1 ([] : List Int))]))
        else none)
      else
      some (v4, (l00Src.mk v1 v2 v3))
    else
    some (v4, (l00Src.mk v1 v2 v3))
noncomputable def lp3 (N : Nat) (a0 : l00Src) : (Int × (List Int) × Int × Int × (List FileAct)) → Option R :=
  miter (fun rec => step3 N a0 rec) N
noncomputable def m (N : Nat) (a0 : l00Src) : Option R :=
  ob (spec_l00Src_size_.m N a0 (20:Int)) fun y1 =>
  ob (spec_l00Src_next_.m N a0 (w64 (y1 + (3:Int)))) fun y2 =>
  lp3 N a0 (y2.1, y2.2.code, y2.2.«at», y2.2.seed, ([] : List FileAct))
@[reducible] noncomputable def sp (N : Nat) : Spec E := { ps := [.box false 179 179], rs := [(.slice 40 (.st 40))], own := true, dp := false, R := R, fn := fun x => m N x.1, res := fun r => (r.1, ()), out := fun r => (r.2, ()), shut := fun a b => (a.1, b.1), res_shut := fun _ _ => rfl, out_shut := fun _ _ => rfl }
end spec_l00Src_fileActs
/-! ### spec_FileActsOf: loop.example/g00220/spec.FileActsOf -/
namespace spec_FileActsOf
abbrev R := (List FileAct)
noncomputable def m (N : Nat) (a0 : List Int) : Option R :=
  ob (spec_l00Source.m N a0) fun y1 =>
  ob (spec_l00Src_fileActs.m N y1) fun y2 =>
  some y2.1
@[reducible] noncomputable def sp (N : Nat) : Spec E := { ps := [.val (.slice 5 (.int .u8))], rs := [(.slice 40 (.st 40))], own := true, dp := false, R := R, fn := fun x => m N x.1, res := fun r => (r, ()), out := fun r => ((), ()), shut := fun a b => a.1, res_shut := fun _ _ => rfl, out_shut := fun _ _ => rfl }
end spec_FileActsOf
/-! ### impl_isList_impl_FileAct: loop.example/g00220/impl.isList[loop.example/g00220/impl.FileAct] -/
namespace impl_isList_impl_FileAct
abbrev R := Bool
noncomputable def m (N : Nat) (a0 : List FileAct) : Option R :=
  some (decide ((a0.length : Int) ≤ (4096:Int)))
@[reducible] noncomputable def sp (N : Nat) : Spec E := { ps := [.val (.slice 40 (.st 40))], rs := [.bool], own := true, dp := false, R := R, fn := fun x => m N x.1, res := fun r => (r, ()), out := fun r => ((), ()), shut := fun a b => a.1, res_shut := fun _ _ => rfl, out_shut := fun _ _ => rfl }
end impl_isList_impl_FileAct
/-! ### impl_within: loop.example/g00220/impl.within -/
namespace impl_within
abbrev R := Bool
noncomputable def m (N : Nat) (a0 : Int) (a1 : Int) (a2 : Int) : Option R :=
  bif (decide (a0 ≥ a1)) then
    some (bif true then (decide (a0 ≤ a2)) else false)
  else
  some false
@[reducible] noncomputable def sp (N : Nat) : Spec E := { ps := [.val (.int .i64), .val (.int .i64), .val (.int .i64)], rs := [.bool], own := true, dp := false, R := R, fn := fun x => m N x.1 x.2.1 x.2.2.1, res := fun r => (r, ()), out := fun r => ((), (), (), ()), shut := fun a b => a.1, res_shut := fun _ _ => rfl, out_shut := fun _ _ => rfl }
end impl_within
/-! ### impl_NewDisk: loop.example/g00220/impl.NewDisk -/
namespace impl_NewDisk
abbrev R := Disk × Int
noncomputable def m (N : Nat) (a0 : Int) : Option R :=
  ob (impl_within.m N a0 (0:Int) (3000:Int)) fun y1 =>
  bif (!y1) then
    some ((Disk.mk (0:Int) ([] : List File)), (4:Int))
  else
  some ((Disk.mk a0 ([] : List File)), (0:Int))
@[reducible] noncomputable def sp (N : Nat) : Spec E := { ps := [.val (.int .i64)], rs := [(.st 27), (.int .i64)], own := true, dp := false, R := R, fn := fun x => m N x.1, res := fun r => (r.1, r.2, ()), out := fun r => ((), ()), shut := fun a b => (a.1, a.2.1), res_shut := fun _ _ => rfl, out_shut := fun _ _ => rfl }
end impl_NewDisk
/-! ### slices_Clone_impl_File_impl_File: slices.Clone[[]loop.example/g00220/impl.File,loop.example/g00220/impl.File] -/
namespace slices_Clone_impl_File_impl_File
abbrev R := (List File)
noncomputable def m (N : Nat) (a0 : List File) : Option R :=
  amb (a0.isEmpty) true
    (some ([] : List File))
    (bif (room (([] : List File).length + a0.length) 40) then
    some (([] : List File) ++ a0)
    else none)
@[reducible] noncomputable def sp (N : Nat) : Spec E := { ps := [.val (.slice 42 (.st 42))], rs := [(.slice 42 (.st 42))], own := true, dp := false, R := R, fn := fun x => m N x.1, res := fun r => (r, ()), out := fun r => ((), ()), shut := fun a b => a.1, res_shut := fun _ _ => rfl, out_shut := fun _ _ => rfl }
end slices_Clone_impl_File_impl_File
/-! ### impl_copyDisk: loop.example/g00220/impl.copyDisk -/
namespace impl_copyDisk
abbrev R := Disk
noncomputable def m (N : Nat) (a0 : Disk) : Option R :=
  ob (slices_Clone_impl_File_impl_File.m N a0.Files) fun y1 =>
  some (Disk.mk a0.Room y1)
@[reducible] noncomputable def sp (N : Nat) : Spec E := { ps := [.val (.st 27)], rs := [(.st 27)], own := true, dp := false, R := R, fn := fun x => m N x.1, res := fun r => (r, ()), out := fun r => ((), ()), shut := fun a b => a.1, res_shut := fun _ _ => rfl, out_shut := fun _ _ => rfl }
end impl_copyDisk
/-! ### strings_Compare: strings.Compare, by the shelf's contract -/
namespace strings_Compare
abbrev R := Int
def m (N : Nat) (a0 a1 : ByteArray) : Option R := some (Go.Lib.compareBytes a0.data.toList a1.data.toList)
@[reducible] noncomputable def sp (N : Nat) : Spec E := { ps := [.val .str, .val .str], rs := [.int .i64], own := true, dp := false, R := R, fn := fun x => m N x.1 x.2.1, res := fun r => (r, ()), out := fun r => ((), (), ()), shut := fun a b => a.1, res_shut := fun _ _ => rfl, out_shut := fun _ _ => rfl }
end strings_Compare
/-! ### impl_Disk_fileAt_1: (loop.example/g00220/impl.Disk).fileAt$1 -/
namespace impl_Disk_fileAt_1
abbrev R := Int
noncomputable def m (N : Nat) (a0 : File) (a1 : ByteArray) : Option R :=
  ob (strings_Compare.m N a0.Name a1) fun y1 =>
  some y1
@[reducible] noncomputable def sp (N : Nat) : Spec E := { ps := [.val (.st 42), .val .str], rs := [(.int .i64)], own := true, dp := false, R := R, fn := fun x => m N x.1 x.2.1, res := fun r => (r, ()), out := fun r => ((), (), ()), shut := fun a b => a.1, res_shut := fun _ _ => rfl, out_shut := fun _ _ => rfl }
end impl_Disk_fileAt_1
/-! ### slices_BinarySearchFunc_impl_File_impl_File_string__impl_Disk_fileAt_1: slices.BinarySearchFunc[[]loop.example/g00220/impl.File,loop.example/g00220/impl.File,string] -/
namespace slices_BinarySearchFunc_impl_File_impl_File_string__impl_Disk_fileAt_1
abbrev R := Int × Bool
noncomputable def step3 (N : Nat) (a0 : List File) (a1 : ByteArray) (rec : (Int × Int × Int) → Option R) : (Int × Int × Int) → Option R
  | (v2, v3, v4) =>
    bif (decide (v3 < v4)) then
      bif (!decide ((1:Int) < 0)) then
      bif (decide (0 ≤ (w64 (Int.fdiv (wu64 (w64 (v3 + v4))) (2 ^ (min (Int.toNat (1:Int)) 64)))))) then
      bif (decide ((w64 (Int.fdiv (wu64 (w64 (v3 + v4))) (2 ^ (min (Int.toNat (1:Int)) 64)))) < (a0.length : Int))) then
      ob (impl_Disk_fileAt_1.m N (a0.getD (Int.toNat (w64 (Int.fdiv (wu64 (w64 (v3 + v4))) (2 ^ (min (Int.toNat (1:Int)) 64))))) File.dz) a1) fun y1 =>
      bif (decide (y1 < (0:Int))) then
        rec (v2, (w64 ((w64 (Int.fdiv (wu64 (w64 (v3 + v4))) (2 ^ (min (Int.toNat (1:Int)) 64)))) + (1:Int))), v4)
      else
      rec (v2, v3, (w64 (Int.fdiv (wu64 (w64 (v3 + v4))) (2 ^ (min (Int.toNat (1:Int)) 64)))))
      else none
      else none
      else none
    else
    bif (decide (v3 < v2)) then
      bif (decide (0 ≤ v3)) then
      bif (decide (v3 < (a0.length : Int))) then
      ob (impl_Disk_fileAt_1.m N (a0.getD (Int.toNat v3) File.dz) a1) fun y2 =>
      some (v3, (bif true then (y2 == (0:Int)) else false))
      else none
      else none
    else
    some (v3, false)
noncomputable def lp3 (N : Nat) (a0 : List File) (a1 : ByteArray) : (Int × Int × Int) → Option R :=
  miter (fun rec => step3 N a0 a1 rec) N
noncomputable def m (N : Nat) (a0 : List File) (a1 : ByteArray) : Option R :=
  lp3 N a0 a1 ((a0.length : Int), (0:Int), (a0.length : Int))
@[reducible] noncomputable def sp (N : Nat) : Spec E := { ps := [.val (.slice 42 (.st 42)), .val .str, .clo 156 []], rs := [(.int .i64), .bool], own := true, dp := false, R := R, fn := fun x => m N x.1 x.2.1, res := fun r => (r.1, r.2, ()), out := fun r => ((), (), (), ()), shut := fun a b => (a.1, a.2.1), res_shut := fun _ _ => rfl, out_shut := fun _ _ => rfl }
end slices_BinarySearchFunc_impl_File_impl_File_string__impl_Disk_fileAt_1
/-! ### impl_Disk_fileAt: (loop.example/g00220/impl.Disk).fileAt -/
namespace impl_Disk_fileAt
abbrev R := Int × Bool
noncomputable def m (N : Nat) (a0 : Disk) (a1 : ByteArray) : Option R :=
  ob (slices_BinarySearchFunc_impl_File_impl_File_string__impl_Disk_fileAt_1.m N a0.Files a1) fun y1 =>
  some (y1.1, y1.2)
@[reducible] noncomputable def sp (N : Nat) : Spec E := { ps := [.val (.st 27), .val .str], rs := [(.int .i64), .bool], own := true, dp := false, R := R, fn := fun x => m N x.1 x.2.1, res := fun r => (r.1, r.2, ()), out := fun r => ((), (), ()), shut := fun a b => (a.1, a.2.1), res_shut := fun _ _ => rfl, out_shut := fun _ _ => rfl }
end impl_Disk_fileAt
/-! ### impl_NameOK: loop.example/g00220/impl.NameOK -/
namespace impl_NameOK
abbrev R := Bool
noncomputable def step2 (N : Nat) (a0 : ByteArray) (rec : (Int × Int) → Option R) : (Int × Int) → Option R
  | (v1, v2) =>
    bif (decide (v2 < v1)) then
      bif (decide (0 ≤ v2)) then
      bif (decide (v2 < (a0.size : Int))) then
      bif (decide ((sb a0 v2) ≥ (97:Int))) then
        bif (bif true then (decide ((sb a0 v2) ≤ (122:Int))) else false) then
          rec (v1, (w64 (v2 + (1:Int))))
        else
        bif (decide ((sb a0 v2) ≥ (65:Int))) then
          bif (bif false then true else (bif true then (decide ((sb a0 v2) ≤ (90:Int))) else false)) then
            rec (v1, (w64 (v2 + (1:Int))))
          else
          bif (!(bif false then true else ((sb a0 v2) == (95:Int)))) then
            bif (v2 == (0:Int)) then
              bif (bif true then true else false) then
                some false
              else
              rec (v1, (w64 (v2 + (1:Int))))
            else
            bif (bif false then true else (decide ((sb a0 v2) < (48:Int)))) then
              bif (bif true then true else false) then
                some false
              else
              rec (v1, (w64 (v2 + (1:Int))))
            else
            bif (bif true then (bif false then true else (decide ((sb a0 v2) > (57:Int)))) else false) then
              some false
            else
            rec (v1, (w64 (v2 + (1:Int))))
          else
          rec (v1, (w64 (v2 + (1:Int))))
        else
        bif (bif false then true else false) then
          rec (v1, (w64 (v2 + (1:Int))))
        else
        bif (!(bif false then true else ((sb a0 v2) == (95:Int)))) then
          bif (v2 == (0:Int)) then
            bif (bif true then true else false) then
              some false
            else
            rec (v1, (w64 (v2 + (1:Int))))
          else
          bif (bif false then true else (decide ((sb a0 v2) < (48:Int)))) then
            bif (bif true then true else false) then
              some false
            else
            rec (v1, (w64 (v2 + (1:Int))))
          else
          bif (bif true then (bif false then true else (decide ((sb a0 v2) > (57:Int)))) else false) then
            some false
          else
          rec (v1, (w64 (v2 + (1:Int))))
        else
        rec (v1, (w64 (v2 + (1:Int))))
      else
      bif (decide ((sb a0 v2) ≥ (65:Int))) then
        bif (bif false then true else (bif true then (decide ((sb a0 v2) ≤ (90:Int))) else false)) then
          rec (v1, (w64 (v2 + (1:Int))))
        else
        bif (!(bif false then true else ((sb a0 v2) == (95:Int)))) then
          bif (v2 == (0:Int)) then
            bif (bif true then true else false) then
              some false
            else
            rec (v1, (w64 (v2 + (1:Int))))
          else
          bif (bif false then true else (decide ((sb a0 v2) < (48:Int)))) then
            bif (bif true then true else false) then
              some false
            else
            rec (v1, (w64 (v2 + (1:Int))))
          else
          bif (bif true then (bif false then true else (decide ((sb a0 v2) > (57:Int)))) else false) then
            some false
          else
          rec (v1, (w64 (v2 + (1:Int))))
        else
        rec (v1, (w64 (v2 + (1:Int))))
      else
      bif (bif false then true else false) then
        rec (v1, (w64 (v2 + (1:Int))))
      else
      bif (!(bif false then true else ((sb a0 v2) == (95:Int)))) then
        bif (v2 == (0:Int)) then
          bif (bif true then true else false) then
            some false
          else
          rec (v1, (w64 (v2 + (1:Int))))
        else
        bif (bif false then true else (decide ((sb a0 v2) < (48:Int)))) then
          bif (bif true then true else false) then
            some false
          else
          rec (v1, (w64 (v2 + (1:Int))))
        else
        bif (bif true then (bif false then true else (decide ((sb a0 v2) > (57:Int)))) else false) then
          some false
        else
        rec (v1, (w64 (v2 + (1:Int))))
      else
      rec (v1, (w64 (v2 + (1:Int))))
      else none
      else none
    else
    ob (impl_within.m N (a0.size : Int) (1:Int) (40:Int)) fun y1 =>
    some y1
noncomputable def lp2 (N : Nat) (a0 : ByteArray) : (Int × Int) → Option R :=
  miter (fun rec => step2 N a0 rec) N
noncomputable def m (N : Nat) (a0 : ByteArray) : Option R :=
  lp2 N a0 ((a0.size : Int), (0:Int))
@[reducible] noncomputable def sp (N : Nat) : Spec E := { ps := [.val .str], rs := [.bool], own := true, dp := false, R := R, fn := fun x => m N x.1, res := fun r => (r, ()), out := fun r => ((), ()), shut := fun a b => a.1, res_shut := fun _ _ => rfl, out_shut := fun _ _ => rfl }
end impl_NameOK
/-! ### impl_Disk_used: (loop.example/g00220/impl.Disk).used -/
namespace impl_Disk_used
abbrev R := Int
noncomputable def step3 (N : Nat) (a0 : Disk) (rec : (Int × Int × Int) → Option R) : (Int × Int × Int) → Option R
  | (v0, v2, v3) =>
    bif (decide (v3 < v2)) then
      bif (decide (0 ≤ v3)) then
      bif (decide (v3 < (a0.Files.length : Int))) then
      rec ((w64 (v0 + (((a0.Files.getD (Int.toNat v3) File.dz).Data).size : Int))), v2, (w64 (v3 + (1:Int))))
      else none
      else none
    else
    some v0
noncomputable def lp3 (N : Nat) (a0 : Disk) : (Int × Int × Int) → Option R :=
  miter (fun rec => step3 N a0 rec) N
noncomputable def m (N : Nat) (a0 : Disk) : Option R :=
  lp3 N a0 ((0:Int), (a0.Files.length : Int), (0:Int))
@[reducible] noncomputable def sp (N : Nat) : Spec E := { ps := [.val (.st 27)], rs := [(.int .i64)], own := true, dp := false, R := R, fn := fun x => m N x.1, res := fun r => (r, ()), out := fun r => ((), ()), shut := fun a b => a.1, res_shut := fun _ _ => rfl, out_shut := fun _ _ => rfl }
end impl_Disk_used
/-! ### slices_Insert_impl_File: slices.Insert[[]impl.File,impl.File], by hand -/
namespace slices_Insert_impl_File
abbrev R := List File
def m (N : Nat) (a0 : List File) (a1 : Int) (a2 : List File) : Option R := insM 40 a0 a1 a2
@[reducible] noncomputable def sp (N : Nat) : Spec E := { ps := [.mov false (.slice 42 (.st 42)), .val (.int .i64), .mov false (.slice 42 (.st 42))], rs := [(.slice 42 (.st 42))], own := true, dp := false, R := R, fn := fun x => m N x.1 x.2.1 x.2.2.1, res := fun r => (r, ()), out := fun r => ((), (), (), ()), shut := fun a b => a.1, res_shut := fun _ _ => rfl, out_shut := fun _ _ => rfl }
end slices_Insert_impl_File
/-! ### impl_Disk_append_: (*loop.example/g00220/impl.Disk).append -/
namespace impl_Disk_append_
abbrev R := Int × Disk
noncomputable def m (N : Nat) (a0 : Disk) (a1 : ByteArray) (a2 : ByteArray) : Option R :=
  ob (impl_Disk_fileAt.m N a0 a1) fun y1 =>
  ob (impl_NameOK.m N a1) fun y2 =>
  bif (!y2) then
    some ((1:Int), a0)
  else
  bif (!y1.2) then
    bif (bif true then ((a0.Files.length : Int) == (8:Int)) else false) then
      some ((7:Int), a0)
    else
    ob (impl_Disk_used.m N a0) fun y3 =>
    bif (bif false then true else (decide ((a2.size : Int) > (w64 (a0.Room - y3))))) then
      some ((7:Int), a0)
    else
    bif (!y1.2) then
      ob (slices_Insert_impl_File.m N a0.Files y1.1 ([(File.mk a1 ByteArray.empty (0:Int))])) fun y4 =>
      bif (decide (0 ≤ y1.1)) then
      bif (decide (y1.1 < (y4.length : Int))) then
      bif (decide (((y4.getD (Int.toNat y1.1) File.dz).Data).size + a2.size ≤ 9223372036854775807)) then
      bif (decide (0 ≤ y1.1)) then
      bif (decide (y1.1 < (y4.length : Int))) then
      (let w5 : List File := (y4.set (Int.toNat y1.1) (File.mk ((y4.getD (Int.toNat y1.1) File.dz).Name) (((y4.getD (Int.toNat y1.1) File.dz).Data) ++ a2) ((y4.getD (Int.toNat y1.1) File.dz).Sure)))
      some ((0:Int), (Disk.mk a0.Room w5)))
      else none
      else none
      else none
      else none
      else none
    else
    bif (decide (0 ≤ y1.1)) then
    bif (decide (y1.1 < (a0.Files.length : Int))) then
    bif (decide (((a0.Files.getD (Int.toNat y1.1) File.dz).Data).size + a2.size ≤ 9223372036854775807)) then
    bif (decide (0 ≤ y1.1)) then
    bif (decide (y1.1 < (a0.Files.length : Int))) then
    (let w6 : List File := (a0.Files.set (Int.toNat y1.1) (File.mk ((a0.Files.getD (Int.toNat y1.1) File.dz).Name) (((a0.Files.getD (Int.toNat y1.1) File.dz).Data) ++ a2) ((a0.Files.getD (Int.toNat y1.1) File.dz).Sure)))
    some ((0:Int), (Disk.mk a0.Room w6)))
    else none
    else none
    else none
    else none
    else none
  else
  ob (impl_Disk_used.m N a0) fun y7 =>
  bif (bif false then true else (decide ((a2.size : Int) > (w64 (a0.Room - y7))))) then
    some ((7:Int), a0)
  else
  bif (!y1.2) then
    ob (slices_Insert_impl_File.m N a0.Files y1.1 ([(File.mk a1 ByteArray.empty (0:Int))])) fun y8 =>
    bif (decide (0 ≤ y1.1)) then
    bif (decide (y1.1 < (y8.length : Int))) then
    bif (decide (((y8.getD (Int.toNat y1.1) File.dz).Data).size + a2.size ≤ 9223372036854775807)) then
    bif (decide (0 ≤ y1.1)) then
    bif (decide (y1.1 < (y8.length : Int))) then
    (let w9 : List File := (y8.set (Int.toNat y1.1) (File.mk ((y8.getD (Int.toNat y1.1) File.dz).Name) (((y8.getD (Int.toNat y1.1) File.dz).Data) ++ a2) ((y8.getD (Int.toNat y1.1) File.dz).Sure)))
    some ((0:Int), (Disk.mk a0.Room w9)))
    else none
    else none
    else none
    else none
    else none
  else
  bif (decide (0 ≤ y1.1)) then
  bif (decide (y1.1 < (a0.Files.length : Int))) then
  bif (decide (((a0.Files.getD (Int.toNat y1.1) File.dz).Data).size + a2.size ≤ 9223372036854775807)) then
  bif (decide (0 ≤ y1.1)) then
  bif (decide (y1.1 < (a0.Files.length : Int))) then
  (let w10 : List File := (a0.Files.set (Int.toNat y1.1) (File.mk ((a0.Files.getD (Int.toNat y1.1) File.dz).Name) (((a0.Files.getD (Int.toNat y1.1) File.dz).Data) ++ a2) ((a0.Files.getD (Int.toNat y1.1) File.dz).Sure)))
  some ((0:Int), (Disk.mk a0.Room w10)))
  else none
  else none
  else none
  else none
  else none
@[reducible] noncomputable def sp (N : Nat) : Spec E := { ps := [.box false 27 27, .val .str, .val .str], rs := [(.int .i64)], own := true, dp := false, R := R, fn := fun x => m N x.1 x.2.1 x.2.2.1, res := fun r => (r.1, ()), out := fun r => (r.2, (), (), ()), shut := fun a b => (a.1, b.1), res_shut := fun _ _ => rfl, out_shut := fun _ _ => rfl }
end impl_Disk_append_
/-! ### impl_Disk_crash: (*loop.example/g00220/impl.Disk).crash -/
namespace impl_Disk_crash
abbrev R := Disk
noncomputable def step1 (N : Nat) (a0 : Disk) (a1 : List Int) (rec : (Int × Int × (List File)) → Option R) : (Int × Int × (List File)) → Option R
  | (v1, v2, v4) =>
    bif (decide (v2 < v1)) then
      bif (decide (0 ≤ v2)) then
      bif (decide (v2 < (v4.length : Int))) then
      bif (decide (v2 < (a1.length : Int))) then
        bif (decide (0 ≤ v2)) then
        bif (decide (v2 < (a1.length : Int))) then
        (let w1 : Int := (if (w64 ((((v4.getD (Int.toNat v2) File.dz).Data).size : Int) - (v4.getD (Int.toNat v2) File.dz).Sure)) < (a1.getD (Int.toNat v2) (0:Int)) then (w64 ((((v4.getD (Int.toNat v2) File.dz).Data).size : Int) - (v4.getD (Int.toNat v2) File.dz).Sure)) else (a1.getD (Int.toNat v2) (0:Int)))
        bif (decide (0 ≤ (w64 ((v4.getD (Int.toNat v2) File.dz).Sure + (if (0:Int) < w1 then w1 else (0:Int)))))) then
        bif (decide ((w64 ((v4.getD (Int.toNat v2) File.dz).Sure + (if (0:Int) < w1 then w1 else (0:Int)))) ≤ ((((v4.getD (Int.toNat v2) File.dz).Data).size : Nat) : Int))) then
        (let w2 : ByteArray := (((v4.getD (Int.toNat v2) File.dz).Data).extract 0 (Int.toNat (w64 ((v4.getD (Int.toNat v2) File.dz).Sure + (if (0:Int) < w1 then w1 else (0:Int))))))
        (let w3 : File := ((v4.set (Int.toNat v2) (File.mk ((v4.getD (Int.toNat v2) File.dz).Name) w2 ((v4.getD (Int.toNat v2) File.dz).Sure))).getD (Int.toNat v2) File.dz)
        (let w4 : File := ((v4.set (Int.toNat v2) (File.mk ((v4.getD (Int.toNat v2) File.dz).Name) w2 ((v4.getD (Int.toNat v2) File.dz).Sure))).getD (Int.toNat v2) File.dz)
        (let w5 : List File := ((v4.set (Int.toNat v2) (File.mk ((v4.getD (Int.toNat v2) File.dz).Name) w2 ((v4.getD (Int.toNat v2) File.dz).Sure))).set (Int.toNat v2) (File.mk w4.Name w4.Data (w3.Data.size : Int)))
        rec (v1, (w64 (v2 + (1:Int))), w5)))))
        else none
        else none)
        else none
        else none
      else
      bif (decide (0 ≤ (w64 ((v4.getD (Int.toNat v2) File.dz).Sure + (0:Int))))) then
      bif (decide ((w64 ((v4.getD (Int.toNat v2) File.dz).Sure + (0:Int))) ≤ ((((v4.getD (Int.toNat v2) File.dz).Data).size : Nat) : Int))) then
      (let w6 : List File := (v4.set (Int.toNat v2) (File.mk ((v4.getD (Int.toNat v2) File.dz).Name) (((v4.getD (Int.toNat v2) File.dz).Data).extract 0 (Int.toNat (w64 ((v4.getD (Int.toNat v2) File.dz).Sure + (0:Int))))) ((v4.getD (Int.toNat v2) File.dz).Sure)))
      (let w7 : List File := (w6.set (Int.toNat v2) (File.mk ((w6.getD (Int.toNat v2) File.dz).Name) ((w6.getD (Int.toNat v2) File.dz).Data) (((w6.getD (Int.toNat v2) File.dz).Data).size : Int)))
      rec (v1, (w64 (v2 + (1:Int))), w7)))
      else none
      else none
      else none
      else none
    else
    some (Disk.mk a0.Room v4)
noncomputable def lp1 (N : Nat) (a0 : Disk) (a1 : List Int) : (Int × Int × (List File)) → Option R :=
  miter (fun rec => step1 N a0 a1 rec) N
noncomputable def m (N : Nat) (a0 : Disk) (a1 : List Int) : Option R :=
  lp1 N a0 a1 ((a0.Files.length : Int), (0:Int), a0.Files)
@[reducible] noncomputable def sp (N : Nat) : Spec E := { ps := [.box false 27 27, .val (.slice 3 (.int .i64))], rs := [], own := true, dp := false, R := R, fn := fun x => m N x.1 x.2.1, res := fun r => (), out := fun r => (r, (), ()), shut := fun a b => b.1, res_shut := fun _ _ => rfl, out_shut := fun _ _ => rfl }
end impl_Disk_crash
/-! ### slices_Delete_impl_File: slices.Delete[[]impl.File,impl.File], by hand -/
namespace slices_Delete_impl_File
abbrev R := List File
def m (N : Nat) (a0 : List File) (a1 : Int) (a2 : Int) : Option R := delM a0 a1 a2
@[reducible] noncomputable def sp (N : Nat) : Spec E := { ps := [.mov false (.slice 42 (.st 42)), .val (.int .i64), .val (.int .i64)], rs := [(.slice 42 (.st 42))], own := true, dp := false, R := R, fn := fun x => m N x.1 x.2.1 x.2.2.1, res := fun r => (r, ()), out := fun r => ((), (), (), ()), shut := fun a b => a.1, res_shut := fun _ _ => rfl, out_shut := fun _ _ => rfl }
end slices_Delete_impl_File
/-! ### impl_Disk_rename: (*loop.example/g00220/impl.Disk).rename -/
namespace impl_Disk_rename
abbrev R := Int × Disk
noncomputable def m (N : Nat) (a0 : Disk) (a1 : Int) (a2 : ByteArray) : Option R :=
  ob (impl_NameOK.m N a2) fun y1 =>
  bif (!y1) then
    some ((1:Int), a0)
  else
  bif (decide (0 ≤ a1)) then
  bif (decide (a1 < (a0.Files.length : Int))) then
  ob (slices_Delete_impl_File.m N a0.Files a1 (w64 (a1 + (1:Int)))) fun y2 =>
  ob (impl_Disk_fileAt.m N (Disk.mk a0.Room y2) a2) fun y3 =>
  bif y3.2 then
    bif (decide (0 ≤ y3.1)) then
    bif (decide (y3.1 < (y2.length : Int))) then
    some ((0:Int), (Disk.mk a0.Room (y2.set (Int.toNat y3.1) (File.mk a2 ((a0.Files.getD (Int.toNat a1) File.dz).Data) ((a0.Files.getD (Int.toNat a1) File.dz).Sure)))))
    else none
    else none
  else
  ob (slices_Insert_impl_File.m N y2 y3.1 ([(File.mk a2 ((a0.Files.getD (Int.toNat a1) File.dz).Data) ((a0.Files.getD (Int.toNat a1) File.dz).Sure))])) fun y4 =>
  some ((0:Int), (Disk.mk a0.Room y4))
  else none
  else none
@[reducible] noncomputable def sp (N : Nat) : Spec E := { ps := [.box false 27 27, .val (.int .i64), .val .str], rs := [(.int .i64)], own := true, dp := false, R := R, fn := fun x => m N x.1 x.2.1 x.2.2.1, res := fun r => (r.1, ()), out := fun r => (r.2, (), (), ()), shut := fun a b => (a.1, b.1), res_shut := fun _ _ => rfl, out_shut := fun _ _ => rfl }
end impl_Disk_rename
/-! ### impl_Disk_do: (*loop.example/g00220/impl.Disk).do -/
namespace impl_Disk_do
abbrev R := Int × Disk
noncomputable def m (N : Nat) (a0 : Disk) (a1 : FileAct) : Option R :=
  bif (a1.Kind == (1:Int)) then
    ob (impl_Disk_append_.m N a0 a1.Name a1.Data) fun y1 =>
    some (y1.1, y1.2)
  else
  bif (a1.Kind == (5:Int)) then
    ob (impl_Disk_crash.m N a0 a1.Keep) fun y2 =>
    some ((0:Int), y2)
  else
  ob (impl_within.m N a1.Kind (2:Int) (6:Int)) fun y3 =>
  bif (!y3) then
    some ((3:Int), a0)
  else
  ob (impl_Disk_fileAt.m N a0 a1.Name) fun y4 =>
  bif (!y4.2) then
    some ((5:Int), a0)
  else
  bif (decide (0 ≤ y4.1)) then
  bif (decide (y4.1 < (a0.Files.length : Int))) then
  bif (a1.Kind == (2:Int)) then
    (let w5 : List File := (a0.Files.set (Int.toNat y4.1) (File.mk ((a0.Files.getD (Int.toNat y4.1) File.dz).Name) ((a0.Files.getD (Int.toNat y4.1) File.dz).Data) (((a0.Files.getD (Int.toNat y4.1) File.dz).Data).size : Int)))
    some ((0:Int), (Disk.mk a0.Room w5)))
  else
  bif (a1.Kind == (3:Int)) then
    ob (impl_Disk_rename.m N a0 y4.1 a1.To) fun y6 =>
    some (y6.1, y6.2)
  else
  bif (a1.Kind == (4:Int)) then
    ob (slices_Delete_impl_File.m N a0.Files y4.1 (w64 (y4.1 + (1:Int)))) fun y7 =>
    some ((0:Int), (Disk.mk a0.Room y7))
  else
  bif (a1.Kind == (6:Int)) then
    ob (impl_within.m N a1.N (0:Int) (((a0.Files.getD (Int.toNat y4.1) File.dz).Data).size : Int)) fun y8 =>
    bif (!y8) then
      some ((4:Int), a0)
    else
    bif (decide (0 ≤ a1.N)) then
    bif (decide (a1.N ≤ ((((a0.Files.getD (Int.toNat y4.1) File.dz).Data).size : Nat) : Int))) then
    (let w9 : List File := (a0.Files.set (Int.toNat y4.1) (File.mk ((a0.Files.getD (Int.toNat y4.1) File.dz).Name) (((a0.Files.getD (Int.toNat y4.1) File.dz).Data).extract 0 (Int.toNat a1.N)) ((a0.Files.getD (Int.toNat y4.1) File.dz).Sure)))
    (let w10 : List File := (w9.set (Int.toNat y4.1) (File.mk ((w9.getD (Int.toNat y4.1) File.dz).Name) ((w9.getD (Int.toNat y4.1) File.dz).Data) (if a1.N < (a0.Files.getD (Int.toNat y4.1) File.dz).Sure then a1.N else (a0.Files.getD (Int.toNat y4.1) File.dz).Sure)))
    some ((0:Int), (Disk.mk a0.Room w10))))
    else none
    else none
  else
  some ((0:Int), a0)
  else none
  else none
@[reducible] noncomputable def sp (N : Nat) : Spec E := { ps := [.box false 27 27, .val (.st 40)], rs := [(.int .i64)], own := true, dp := false, R := R, fn := fun x => m N x.1 x.2.1, res := fun r => (r.1, ()), out := fun r => (r.2, (), ()), shut := fun a b => (a.1, b.1), res_shut := fun _ _ => rfl, out_shut := fun _ _ => rfl }
end impl_Disk_do
/-! ### impl_step: loop.example/g00220/impl.step -/
namespace impl_step
abbrev R := Disk × Int
noncomputable def m (N : Nat) (a0 : Disk) (a1 : FileAct) : Option R :=
  ob (impl_copyDisk.m N a0) fun y1 =>
  ob (impl_Disk_do.m N y1 a1) fun y2 =>
  bif (y2.1 != (0:Int)) then
    ob (impl_copyDisk.m N a0) fun y3 =>
    some (y3, y2.1)
  else
  some (y2.2, (0:Int))
@[reducible] noncomputable def sp (N : Nat) : Spec E := { ps := [.val (.st 27), .val (.st 40)], rs := [(.st 27), (.int .i64)], own := true, dp := false, R := R, fn := fun x => m N x.1 x.2.1, res := fun r => (r.1, r.2, ()), out := fun r => ((), (), ()), shut := fun a b => (a.1, a.2.1), res_shut := fun _ _ => rfl, out_shut := fun _ _ => rfl }
end impl_step
/-! ### impl_FileRun: loop.example/g00220/impl.FileRun -/
namespace impl_FileRun
abbrev R := Disk × (List Int) × Int
noncomputable def step10 (N : Nat) (a0 : Int) (a1 : List FileAct) (rec : (Int × Int × Int × Int × (List File) × (List Int)) → Option R) : (Int × Int × Int × Int × (List File) × (List Int)) → Option R
  | (v1, v2, v3, v4, v5, v6) =>
    bif (decide (v2 < v1)) then
      bif (decide (0 ≤ v2)) then
      bif (decide (v2 < (a1.length : Int))) then
      ob (impl_step.m N (Disk.mk v4 v5) (a1.getD (Int.toNat v2) FileAct.dz)) fun y3 =>
      bif (room (v6.length + ([y3.2]).length) 8) then
      rec (v1, (w64 (v2 + (1:Int))), v3, y3.1.Room, y3.1.Files, (v6 ++ [y3.2]))
      else none
      else none
      else none
    else
    some ((Disk.mk v4 v5), v6, (0:Int))
noncomputable def lp10 (N : Nat) (a0 : Int) (a1 : List FileAct) : (Int × Int × Int × Int × (List File) × (List Int)) → Option R :=
  miter (fun rec => step10 N a0 a1 rec) N
noncomputable def m (N : Nat) (a0 : Int) (a1 : List FileAct) : Option R :=
  ob (impl_isList_impl_FileAct.m N a1) fun y1 =>
  bif (!y1) then
    some ((Disk.mk (0:Int) ([] : List File)), ([] : List Int), (2:Int))
  else
  ob (impl_NewDisk.m N a0) fun y2 =>
  bif (y2.2 != (0:Int)) then
    some ((Disk.mk (0:Int) ([] : List File)), ([] : List Int), y2.2)
  else
  bif (decide ((a1.length : Int) > (120:Int))) then
    some ((Disk.mk (0:Int) ([] : List File)), ([] : List Int), (6:Int))
  else
  lp10 N a0 a1 ((a1.length : Int), (0:Int), (0:Int), y2.1.Room, y2.1.Files, ([] : List Int))
@[reducible] noncomputable def sp (N : Nat) : Spec E := { ps := [.val (.int .i64), .val (.slice 40 (.st 40))], rs := [(.st 27), (.slice 3 (.int .i64)), (.int .i64)], own := true, dp := false, R := R, fn := fun x => m N x.1 x.2.1, res := fun r => (r.1, r.2.1, r.2.2, ()), out := fun r => ((), (), ()), shut := fun a b => (a.1, a.2.1, a.2.2.1), res_shut := fun _ _ => rfl, out_shut := fun _ _ => rfl }
end impl_FileRun
/-! ### spec_l01In: loop.example/g00220/spec.l01In -/
namespace spec_l01In
abbrev R := Bool
noncomputable def m (N : Nat) (a0 : Int) (a1 : Int) (a2 : Int) : Option R :=
  bif (decide (a0 ≥ a1)) then
    some (bif true then (decide (a0 ≤ a2)) else false)
  else
  some false
@[reducible] noncomputable def sp (N : Nat) : Spec E := { ps := [.val (.int .i64), .val (.int .i64), .val (.int .i64)], rs := [.bool], own := true, dp := false, R := R, fn := fun x => m N x.1 x.2.1 x.2.2.1, res := fun r => (r, ()), out := fun r => ((), (), (), ()), shut := fun a b => a.1, res_shut := fun _ _ => rfl, out_shut := fun _ _ => rfl }
end spec_l01In
/-! ### spec_NewDisk: loop.example/g00220/spec.NewDisk -/
namespace spec_NewDisk
abbrev R := Disk × Int
noncomputable def m (N : Nat) (a0 : Int) : Option R :=
  ob (spec_l01In.m N a0 (0:Int) (3000:Int)) fun y1 =>
  bif (!y1) then
    some ((Disk.mk (0:Int) ([] : List File)), (4:Int))
  else
  some ((Disk.mk a0 ([] : List File)), (0:Int))
@[reducible] noncomputable def sp (N : Nat) : Spec E := { ps := [.val (.int .i64)], rs := [(.st 27), (.int .i64)], own := true, dp := false, R := R, fn := fun x => m N x.1, res := fun r => (r.1, r.2, ()), out := fun r => ((), ()), shut := fun a b => (a.1, a.2.1), res_shut := fun _ _ => rfl, out_shut := fun _ _ => rfl }
end spec_NewDisk
/-! ### spec_l03Find: loop.example/g00220/spec.l03Find -/
namespace spec_l03Find
abbrev R := Int
noncomputable def step2 (N : Nat) (a0 : Disk) (a1 : ByteArray) (rec : Int → Option R) : Int → Option R
  | v1 =>
    bif (decide (v1 < (a0.Files.length : Int))) then
      bif (decide (0 ≤ v1)) then
      bif (decide (v1 < (a0.Files.length : Int))) then
      bif (seq ((a0.Files.getD (Int.toNat v1) File.dz).Name) a1) then
        some v1
      else
      rec (w64 (v1 + (1:Int)))
      else none
      else none
    else
    some (-1:Int)
noncomputable def lp2 (N : Nat) (a0 : Disk) (a1 : ByteArray) : Int → Option R :=
  miter (fun rec => step2 N a0 a1 rec) N
noncomputable def m (N : Nat) (a0 : Disk) (a1 : ByteArray) : Option R :=
  lp2 N a0 a1 (0:Int)
@[reducible] noncomputable def sp (N : Nat) : Spec E := { ps := [.val (.st 27), .val .str], rs := [(.int .i64)], own := true, dp := false, R := R, fn := fun x => m N x.1 x.2.1, res := fun r => (r, ()), out := fun r => ((), (), ()), shut := fun a b => a.1, res_shut := fun _ _ => rfl, out_shut := fun _ _ => rfl }
end spec_l03Find
/-! ### spec_l00Letter: loop.example/g00220/spec.l00Letter -/
namespace spec_l00Letter
abbrev R := Bool
noncomputable def m (N : Nat) (a0 : Int) : Option R :=
  bif (decide (a0 ≥ (97:Int))) then
    bif (bif true then (decide (a0 ≤ (122:Int))) else false) then
      some true
    else
    bif (decide (a0 ≥ (65:Int))) then
      bif (bif false then true else (bif true then (decide (a0 ≤ (90:Int))) else false)) then
        some true
      else
      some (bif false then true else (a0 == (95:Int)))
    else
    bif (bif false then true else false) then
      some true
    else
    some (bif false then true else (a0 == (95:Int)))
  else
  bif (decide (a0 ≥ (65:Int))) then
    bif (bif false then true else (bif true then (decide (a0 ≤ (90:Int))) else false)) then
      some true
    else
    some (bif false then true else (a0 == (95:Int)))
  else
  bif (bif false then true else false) then
    some true
  else
  some (bif false then true else (a0 == (95:Int)))
@[reducible] noncomputable def sp (N : Nat) : Spec E := { ps := [.val (.int .u8)], rs := [.bool], own := true, dp := false, R := R, fn := fun x => m N x.1, res := fun r => (r, ()), out := fun r => ((), ()), shut := fun a b => a.1, res_shut := fun _ _ => rfl, out_shut := fun _ _ => rfl }
end spec_l00Letter
/-! ### spec_l00Digit: loop.example/g00220/spec.l00Digit -/
namespace spec_l00Digit
abbrev R := Bool
noncomputable def m (N : Nat) (a0 : Int) : Option R :=
  bif (decide (a0 ≥ (48:Int))) then
    some (bif true then (decide (a0 ≤ (57:Int))) else false)
  else
  some false
@[reducible] noncomputable def sp (N : Nat) : Spec E := { ps := [.val (.int .u8)], rs := [.bool], own := true, dp := false, R := R, fn := fun x => m N x.1, res := fun r => (r, ()), out := fun r => ((), ()), shut := fun a b => a.1, res_shut := fun _ _ => rfl, out_shut := fun _ _ => rfl }
end spec_l00Digit
/-! ### spec_l00Word: loop.example/g00220/spec.l00Word -/
namespace spec_l00Word
abbrev R := Bool
noncomputable def step4 (N : Nat) (a0 : ByteArray) (rec : Int → Option R) : Int → Option R
  | v1 =>
    bif (decide (v1 < (a0.size : Int))) then
      bif (decide (0 ≤ v1)) then
      bif (decide (v1 < (a0.size : Int))) then
      ob (spec_l00Letter.m N (sb a0 v1)) fun y2 =>
      bif (!y2) then
        bif (decide (0 ≤ v1)) then
        bif (decide (v1 < (a0.size : Int))) then
        ob (spec_l00Digit.m N (sb a0 v1)) fun y3 =>
        bif (bif true then (!y3) else false) then
          some false
        else
        rec (w64 (v1 + (1:Int)))
        else none
        else none
      else
      rec (w64 (v1 + (1:Int)))
      else none
      else none
    else
    some true
noncomputable def lp4 (N : Nat) (a0 : ByteArray) : Int → Option R :=
  miter (fun rec => step4 N a0 rec) N
noncomputable def m (N : Nat) (a0 : ByteArray) : Option R :=
  bif (decide ((a0.size : Int) < (1:Int))) then
    some false
  else
  bif (bif false then true else (decide ((a0.size : Int) > (40:Int)))) then
    some false
  else
  bif (decide (0 ≤ (0:Int))) then
  bif (decide ((0:Int) < (a0.size : Int))) then
  ob (spec_l00Letter.m N (sb a0 (0:Int))) fun y1 =>
  bif (bif false then true else (!y1)) then
    some false
  else
  lp4 N a0 (1:Int)
  else none
  else none
@[reducible] noncomputable def sp (N : Nat) : Spec E := { ps := [.val .str], rs := [.bool], own := true, dp := false, R := R, fn := fun x => m N x.1, res := fun r => (r, ()), out := fun r => ((), ()), shut := fun a b => a.1, res_shut := fun _ _ => rfl, out_shut := fun _ _ => rfl }
end spec_l00Word
/-! ### spec_NameOK: loop.example/g00220/spec.NameOK -/
namespace spec_NameOK
abbrev R := Bool
noncomputable def m (N : Nat) (a0 : ByteArray) : Option R :=
  ob (spec_l00Word.m N a0) fun y1 =>
  some y1
@[reducible] noncomputable def sp (N : Nat) : Spec E := { ps := [.val .str], rs := [.bool], own := true, dp := false, R := R, fn := fun x => m N x.1, res := fun r => (r, ()), out := fun r => ((), ()), shut := fun a b => a.1, res_shut := fun _ _ => rfl, out_shut := fun _ _ => rfl }
end spec_NameOK
/-! ### spec_l03Used: loop.example/g00220/spec.l03Used -/
namespace spec_l03Used
abbrev R := Int
noncomputable def step3 (N : Nat) (a0 : Disk) (rec : (Int × Int) → Option R) : (Int × Int) → Option R
  | (v0, v1) =>
    bif (decide (v1 < (a0.Files.length : Int))) then
      bif (decide (0 ≤ v1)) then
      bif (decide (v1 < (a0.Files.length : Int))) then
      rec ((w64 (v0 + (((a0.Files.getD (Int.toNat v1) File.dz).Data).size : Int))), (w64 (v1 + (1:Int))))
      else none
      else none
    else
    some v0
noncomputable def lp3 (N : Nat) (a0 : Disk) : (Int × Int) → Option R :=
  miter (fun rec => step3 N a0 rec) N
noncomputable def m (N : Nat) (a0 : Disk) : Option R :=
  lp3 N a0 ((0:Int), (0:Int))
@[reducible] noncomputable def sp (N : Nat) : Spec E := { ps := [.val (.st 27)], rs := [(.int .i64)], own := true, dp := false, R := R, fn := fun x => m N x.1, res := fun r => (r, ()), out := fun r => ((), ()), shut := fun a b => a.1, res_shut := fun _ _ => rfl, out_shut := fun _ _ => rfl }
end spec_l03Used
/-! ### spec_l03Put: loop.example/g00220/spec.l03Put -/
namespace spec_l03Put
abbrev R := Disk
inductive A4 where
  | s0 (v0 : Int) (v6 : Int) (v8 : List File)
  | s1 (v0 : Int) (v6 : Int) (v8 : List File)
noncomputable def step4 (N : Nat) (a0 : Disk) (a1 : File) (rec : A4 → Option R) : A4 → Option R
  | .s0 v0 v6 v8 =>
    bif (decide (v0 < (a0.Files.length : Int))) then
      bif (decide (0 ≤ v0)) then
      bif (decide (v0 < (a0.Files.length : Int))) then
      bif (bif true then (!slt ((a0.Files.getD (Int.toNat v0) File.dz).Name) a1.Name) else false) then
        bif (room (v8.length + ([a1]).length) 40) then
        bif (decide (0 ≤ v0)) then
        bif (decide (v0 < (a0.Files.length : Int))) then
        bif (!seq ((a0.Files.getD (Int.toNat v0) File.dz).Name) a1.Name) then
          bif (decide (0 ≤ v0)) then
          bif (decide (v0 < (a0.Files.length : Int))) then
          bif (room ((v8 ++ [a1]).length + ([(a0.Files.getD (Int.toNat v0) File.dz)]).length) 40) then
          rec (.s1 (w64 (v0 + (1:Int))) v6 ((v8 ++ [a1]) ++ [(a0.Files.getD (Int.toNat v0) File.dz)]))
          else none
          else none
          else none
        else
        rec (.s1 (w64 (v0 + (1:Int))) v6 (v8 ++ [a1]))
        else none
        else none
        else none
      else
      bif (decide (0 ≤ v0)) then
      bif (decide (v0 < (a0.Files.length : Int))) then
      bif (!seq ((a0.Files.getD (Int.toNat v0) File.dz).Name) a1.Name) then
        bif (decide (0 ≤ v0)) then
        bif (decide (v0 < (a0.Files.length : Int))) then
        bif (room (v8.length + ([(a0.Files.getD (Int.toNat v0) File.dz)]).length) 40) then
        rec (.s0 (w64 (v0 + (1:Int))) v6 (v8 ++ [(a0.Files.getD (Int.toNat v0) File.dz)]))
        else none
        else none
        else none
      else
      rec (.s0 (w64 (v0 + (1:Int))) v6 v8)
      else none
      else none
      else none
      else none
    else
    bif (room (v8.length + ([a1]).length) 40) then
    some (Disk.mk a0.Room (v8 ++ [a1]))
    else none
  | .s1 v0 v6 v8 =>
    bif (decide (v0 < (a0.Files.length : Int))) then
      bif (decide (0 ≤ v0)) then
      bif (decide (v0 < (a0.Files.length : Int))) then
      bif (!seq ((a0.Files.getD (Int.toNat v0) File.dz).Name) a1.Name) then
        bif (decide (0 ≤ v0)) then
        bif (decide (v0 < (a0.Files.length : Int))) then
        bif (room (v8.length + ([(a0.Files.getD (Int.toNat v0) File.dz)]).length) 40) then
        rec (.s1 (w64 (v0 + (1:Int))) v6 (v8 ++ [(a0.Files.getD (Int.toNat v0) File.dz)]))
        else none
        else none
        else none
      else
      rec (.s1 (w64 (v0 + (1:Int))) v6 v8)
      else none
      else none
    else
    some (Disk.mk a0.Room v8)
noncomputable def lp4 (N : Nat) (a0 : Disk) (a1 : File) : A4 → Option R :=
  miter (fun rec => step4 N a0 a1 rec) N
noncomputable def m (N : Nat) (a0 : Disk) (a1 : File) : Option R :=
  lp4 N a0 a1 (.s0 (0:Int) (0:Int) ([] : List File))
@[reducible] noncomputable def sp (N : Nat) : Spec E := { ps := [.val (.st 27), .val (.st 42)], rs := [(.st 27)], own := true, dp := false, R := R, fn := fun x => m N x.1 x.2.1, res := fun r => (r, ()), out := fun r => ((), (), ()), shut := fun a b => a.1, res_shut := fun _ _ => rfl, out_shut := fun _ _ => rfl }
end spec_l03Put
/-! ### spec_l03Append: loop.example/g00220/spec.l03Append -/
namespace spec_l03Append
abbrev R := Disk × Int
noncomputable def m (N : Nat) (a0 : Disk) (a1 : FileAct) : Option R :=
  ob (spec_l03Find.m N a0 a1.Name) fun y1 =>
  ob (spec_NameOK.m N a1.Name) fun y2 =>
  bif (!y2) then
    some (a0, (1:Int))
  else
  bif (decide (y1 < (0:Int))) then
    bif (bif true then ((a0.Files.length : Int) == (8:Int)) else false) then
      some (a0, (7:Int))
    else
    ob (spec_l03Used.m N a0) fun y3 =>
    bif (decide ((w64 (y3 + (a1.Data.size : Int))) > a0.Room)) then
      some (a0, (7:Int))
    else
    bif (decide (y1 ≥ (0:Int))) then
      bif (decide (0 ≤ y1)) then
      bif (decide (y1 < (a0.Files.length : Int))) then
      bif (decide (((a0.Files.getD (Int.toNat y1) File.dz).Data).size + a1.Data.size ≤ 9223372036854775807)) then
      ob (spec_l03Put.m N a0 (File.mk ((a0.Files.getD (Int.toNat y1) File.dz).Name) (((a0.Files.getD (Int.toNat y1) File.dz).Data) ++ a1.Data) ((a0.Files.getD (Int.toNat y1) File.dz).Sure))) fun y4 =>
      some (y4, (0:Int))
      else none
      else none
      else none
    else
    bif (decide (ByteArray.empty.size + a1.Data.size ≤ 9223372036854775807)) then
    ob (spec_l03Put.m N a0 (File.mk a1.Name (ByteArray.empty ++ a1.Data) (0:Int))) fun y5 =>
    some (y5, (0:Int))
    else none
  else
  ob (spec_l03Used.m N a0) fun y6 =>
  bif (decide ((w64 (y6 + (a1.Data.size : Int))) > a0.Room)) then
    some (a0, (7:Int))
  else
  bif (decide (y1 ≥ (0:Int))) then
    bif (decide (0 ≤ y1)) then
    bif (decide (y1 < (a0.Files.length : Int))) then
    bif (decide (((a0.Files.getD (Int.toNat y1) File.dz).Data).size + a1.Data.size ≤ 9223372036854775807)) then
    ob (spec_l03Put.m N a0 (File.mk ((a0.Files.getD (Int.toNat y1) File.dz).Name) (((a0.Files.getD (Int.toNat y1) File.dz).Data) ++ a1.Data) ((a0.Files.getD (Int.toNat y1) File.dz).Sure))) fun y7 =>
    some (y7, (0:Int))
    else none
    else none
    else none
  else
  bif (decide (ByteArray.empty.size + a1.Data.size ≤ 9223372036854775807)) then
  ob (spec_l03Put.m N a0 (File.mk a1.Name (ByteArray.empty ++ a1.Data) (0:Int))) fun y8 =>
  some (y8, (0:Int))
  else none
@[reducible] noncomputable def sp (N : Nat) : Spec E := { ps := [.val (.st 27), .val (.st 40)], rs := [(.st 27), (.int .i64)], own := false, dp := false, R := R, fn := fun x => m N x.1 x.2.1, res := fun r => (r.1, r.2, ()), out := fun r => ((), (), ()), shut := fun a b => (a.1, a.2.1), res_shut := fun _ _ => rfl, out_shut := fun _ _ => rfl }
end spec_l03Append
/-! ### spec_l03Own: loop.example/g00220/spec.l03Own -/
namespace spec_l03Own
abbrev R := Disk
noncomputable def m (N : Nat) (a0 : Disk) : Option R :=
  bif (room (([] : List File).length + a0.Files.length) 40) then
  some (Disk.mk a0.Room (([] : List File) ++ a0.Files))
  else none
@[reducible] noncomputable def sp (N : Nat) : Spec E := { ps := [.val (.st 27)], rs := [(.st 27)], own := true, dp := false, R := R, fn := fun x => m N x.1, res := fun r => (r, ()), out := fun r => ((), ()), shut := fun a b => a.1, res_shut := fun _ _ => rfl, out_shut := fun _ _ => rfl }
end spec_l03Own
/-! ### spec_l03Crash: loop.example/g00220/spec.l03Crash -/
namespace spec_l03Crash
abbrev R := Disk
noncomputable def step3 (N : Nat) (a0 : Disk) (a1 : List Int) (rec : (Int × Int × Int × (List File)) → Option R) : (Int × Int × Int × (List File)) → Option R
  | (v1, v2, v3, v4) =>
    bif (decide (v1 < (v4.length : Int))) then
      bif (decide (0 ≤ v1)) then
      bif (decide (v1 < (v4.length : Int))) then
      bif (decide (v1 < (a1.length : Int))) then
        bif (decide (0 ≤ v1)) then
        bif (decide (v1 < (a1.length : Int))) then
        (let w2 : Int := (w64 ((v4.getD (Int.toNat v1) File.dz).Sure + (if (a1.getD (Int.toNat v1) (0:Int)) < (3000:Int) then (a1.getD (Int.toNat v1) (0:Int)) else (3000:Int))))
        (let w3 : Int := (if (v4.getD (Int.toNat v1) File.dz).Sure < (if w2 < (((v4.getD (Int.toNat v1) File.dz).Data).size : Int) then w2 else (((v4.getD (Int.toNat v1) File.dz).Data).size : Int)) then (if w2 < (((v4.getD (Int.toNat v1) File.dz).Data).size : Int) then w2 else (((v4.getD (Int.toNat v1) File.dz).Data).size : Int)) else (v4.getD (Int.toNat v1) File.dz).Sure)
        bif (decide (0 ≤ w3)) then
        bif (decide (w3 ≤ ((((v4.getD (Int.toNat v1) File.dz).Data).size : Nat) : Int))) then
        (let w4 : List File := (v4.set (Int.toNat v1) (File.mk ((v4.getD (Int.toNat v1) File.dz).Name) (((v4.getD (Int.toNat v1) File.dz).Data).extract 0 (Int.toNat w3)) ((v4.getD (Int.toNat v1) File.dz).Sure)))
        rec ((w64 (v1 + (1:Int))), v2, v3, (w4.set (Int.toNat v1) (File.mk ((w4.getD (Int.toNat v1) File.dz).Name) ((w4.getD (Int.toNat v1) File.dz).Data) w3))))
        else none
        else none))
        else none
        else none
      else
      bif (decide (0 ≤ (v4.getD (Int.toNat v1) File.dz).Sure)) then
      bif (decide ((v4.getD (Int.toNat v1) File.dz).Sure ≤ ((((v4.getD (Int.toNat v1) File.dz).Data).size : Nat) : Int))) then
      (let w5 : List File := (v4.set (Int.toNat v1) (File.mk ((v4.getD (Int.toNat v1) File.dz).Name) (((v4.getD (Int.toNat v1) File.dz).Data).extract 0 (Int.toNat ((v4.getD (Int.toNat v1) File.dz).Sure))) ((v4.getD (Int.toNat v1) File.dz).Sure)))
      (let w6 : List File := (w5.set (Int.toNat v1) (File.mk ((w5.getD (Int.toNat v1) File.dz).Name) ((w5.getD (Int.toNat v1) File.dz).Data) ((v4.getD (Int.toNat v1) File.dz).Sure)))
      rec ((w64 (v1 + (1:Int))), v2, v3, w6)))
      else none
      else none
      else none
      else none
    else
    some (Disk.mk v3 v4)
noncomputable def lp3 (N : Nat) (a0 : Disk) (a1 : List Int) : (Int × Int × Int × (List File)) → Option R :=
  miter (fun rec => step3 N a0 a1 rec) N
noncomputable def m (N : Nat) (a0 : Disk) (a1 : List Int) : Option R :=
  ob (spec_l03Own.m N a0) fun y1 =>
  lp3 N a0 a1 ((0:Int), (0:Int), y1.Room, y1.Files)
@[reducible] noncomputable def sp (N : Nat) : Spec E := { ps := [.val (.st 27), .val (.slice 3 (.int .i64))], rs := [(.st 27)], own := true, dp := false, R := R, fn := fun x => m N x.1 x.2.1, res := fun r => (r, ()), out := fun r => ((), (), ()), shut := fun a b => a.1, res_shut := fun _ _ => rfl, out_shut := fun _ _ => rfl }
end spec_l03Crash
/-! ### spec_l03Without: loop.example/g00220/spec.l03Without -/
namespace spec_l03Without
abbrev R := Disk
noncomputable def m (N : Nat) (a0 : Disk) (a1 : Int) : Option R :=
  bif (decide (0 ≤ a1)) then
  bif (decide (a1 ≤ ((a0.Files.length : Nat) : Int))) then
  bif (room (([] : List File).length + (a0.Files.take (Int.toNat a1)).length) 40) then
  bif (decide (0 ≤ (w64 (a1 + (1:Int))))) then
  bif (decide ((w64 (a1 + (1:Int))) ≤ ((a0.Files.length : Nat) : Int))) then
  bif (room ((([] : List File) ++ (a0.Files.take (Int.toNat a1))).length + (a0.Files.drop (Int.toNat (w64 (a1 + (1:Int))))).length) 40) then
  some (Disk.mk a0.Room ((([] : List File) ++ (a0.Files.take (Int.toNat a1))) ++ (a0.Files.drop (Int.toNat (w64 (a1 + (1:Int)))))))
  else none
  else none
  else none
  else none
  else none
  else none
@[reducible] noncomputable def sp (N : Nat) : Spec E := { ps := [.val (.st 27), .val (.int .i64)], rs := [(.st 27)], own := true, dp := false, R := R, fn := fun x => m N x.1 x.2.1, res := fun r => (r, ()), out := fun r => ((), (), ()), shut := fun a b => a.1, res_shut := fun _ _ => rfl, out_shut := fun _ _ => rfl }
end spec_l03Without
end Mir.Y
