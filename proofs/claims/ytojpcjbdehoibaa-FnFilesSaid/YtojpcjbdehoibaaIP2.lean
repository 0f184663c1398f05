/- The models are what the functions do. -/
import Derived.Test.YtojpcjbdehoibaaIP1
namespace Mir.Y
set_option linter.unusedVariables false
set_option maxRecDepth 10000
open Go Go.Proofs Mir
namespace spec_l03Append
noncomputable def code : Code := Try.f147.body.getD .skip
abbrev live : Live := []
noncomputable def G (N : Nat) : Ctx E := gam [(149, [], spec_l03Find.sp N), (152, [], spec_NameOK.sp N), (159, [], spec_l03Used.sp N), (150, [], spec_l03Put.sp N)]
noncomputable def m0 (N : Nat) (a0 : Disk) (a1 : FileAct) : Option R :=
  ob (spec_l03Find.m N a0 a1.Name) fun y1 =>
  ob (spec_NameOK.m N a1.Name) fun y2 =>
  bif (!y2) then
    some (a0, (1:Int))
  else
  bif (decide (y1 < (0:Int))) then
    bif (bif true then ((a0.Files.length : Int) == (8:Int)) else false) then
      some (a0, (7:Int))
    else
    ob (spec_l03Used.m N a0) fun y3 =>
    bif (decide ((w64 (y3 + (a1.Data.size : Int))) > a0.Room)) then
      some (a0, (7:Int))
    else
    bif (decide (y1 ≥ (0:Int))) then
      bif (decide (0 ≤ y1)) then
      bif (decide (y1 < (a0.Files.length : Int))) then
      bif (decide (((a0.Files.getD (Int.toNat y1) File.dz).Data).size + a1.Data.size ≤ 9223372036854775807)) then
      ob (spec_l03Put.m N a0 (File.mk ((a0.Files.getD (Int.toNat y1) File.dz).Name) (((a0.Files.getD (Int.toNat y1) File.dz).Data) ++ a1.Data) ((a0.Files.getD (Int.toNat y1) File.dz).Sure))) fun y4 =>
      some (y4, (0:Int))
      else none
      else none
      else none
    else
    bif (decide (ByteArray.empty.size + a1.Data.size ≤ 9223372036854775807)) then
    ob (spec_l03Put.m N a0 (File.mk a1.Name (ByteArray.empty ++ a1.Data) (0:Int))) fun y5 =>
    some (y5, (0:Int))
    else none
  else
  ob (spec_l03Used.m N a0) fun y6 =>
  bif (decide ((w64 (y6 + (a1.Data.size : Int))) > a0.Room)) then
    some (a0, (7:Int))
  else
  bif (decide (y1 ≥ (0:Int))) then
    bif (decide (0 ≤ y1)) then
    bif (decide (y1 < (a0.Files.length : Int))) then
    bif (decide (((a0.Files.getD (Int.toNat y1) File.dz).Data).size + a1.Data.size ≤ 9223372036854775807)) then
    ob (spec_l03Put.m N a0 (File.mk ((a0.Files.getD (Int.toNat y1) File.dz).Name) (((a0.Files.getD (Int.toNat y1) File.dz).Data) ++ a1.Data) ((a0.Files.getD (Int.toNat y1) File.dz).Sure))) fun y7 =>
    some (y7, (0:Int))
    else none
    else none
    else none
  else
  bif (decide (ByteArray.empty.size + a1.Data.size ≤ 9223372036854775807)) then
  ob (spec_l03Put.m N a0 (File.mk a1.Name (ByteArray.empty ++ a1.Data) (0:Int))) fun y8 =>
  some (y8, (0:Int))
  else none
theorem run (N : Nat) (o0 : Orc E R) (a0 : Disk) (a1 : FileAct) : runF T (G N) live [] Try.f147 code (sp N) o0 (a0, a1, ()) = m0 N a0 a1 := by kernel_rfl
theorem G_ok (N : Nat) : GamOK Try.prog (G N) := gam_ok (l := [(149, [], spec_l03Find.sp N), (152, [], spec_NameOK.sp N), (159, [], spec_l03Used.sp N), (150, [], spec_l03Put.sp N)]) (⟨spec_l03Find.snd N, spec_NameOK.snd N, spec_l03Used.snd N, spec_l03Put.snd N, trivial⟩)
theorem snd (N : Nat) : Sound Try.prog E 147 (sp N) :=
  Mir.sound T_OK (G_ok N) mixed Try.func147 (c := code) (by kernel_rfl) (by kernel_rfl) (sp N) (Nat.le_of_ble_eq_true (by kernel_rfl)) live [] (by
    rintro ⟨a0, a1, _⟩ r h
    exact ⟨N, 2, ((run N _ a0 a1).trans rfl).trans h⟩)
end spec_l03Append
namespace spec_l03Own
noncomputable def code : Code := Try.f79.body.getD .skip
abbrev live : Live := []
noncomputable def G (N : Nat) : Ctx E := gam []
noncomputable def m0 (N : Nat) (a0 : Disk) : Option R :=
  bif (room (([] : List File).length + a0.Files.length) 40) then
  some (Disk.mk a0.Room (([] : List File) ++ a0.Files))
  else none
theorem run (N : Nat) (o0 : Orc E R) (a0 : Disk) : runF T (G N) live [] Try.f79 code (sp N) o0 (a0, ()) = m0 N a0 := by kernel_rfl
theorem G_ok (N : Nat) : GamOK Try.prog (G N) := gam_ok (l := []) (trivial)
theorem snd (N : Nat) : Sound Try.prog E 79 (sp N) :=
  Mir.sound T_OK (G_ok N) mixed Try.func79 (c := code) (by kernel_rfl) (by kernel_rfl) (sp N) (Nat.le_of_ble_eq_true (by kernel_rfl)) live [] (by
    rintro ⟨a0, _⟩ r h
    exact ⟨N, 2, ((run N _ a0).trans rfl).trans h⟩)
end spec_l03Own
namespace spec_l03Crash
noncomputable def code : Code := Try.f148.body.getD .skip
abbrev live : Live := [(3, [1, 4, 5, 6])]
noncomputable def G (N : Nat) : Ctx E := gam [(79, [], spec_l03Own.sp N)]
noncomputable def loop3 : Code := codeAt code [1, 1, 0, 1, 0]
noncomputable def body3 : Code := codeAt loop3 [0]
noncomputable def K3 (N : Nat) (o0 : Orc E R) : KT E R := kAt T (G N) live [] o0 code [1, 1, 0, 1, 0] (kfin T Try.f148 (sp N))
noncomputable def St3 (a0 : Disk) (a1 : List Int) : (Int × Int × Int × (List File)) → St E
  | (v1, v2, v3, v4) => { ρ := [(1, .c (.at (.ro 3 (.int .i64) a1))), (4, .c (.at (.ptr 0 0))), (5, .c (.at (.ptr 1 0))), (6, .c (.at (.int .i64 v1)))], H := [(0, .box 27 [.int .i64 v2, .nils]), (1, .box 27 [.int .i64 v3, .own 2]), (2, .row 42 (.st 42) v4 false)], nx := 3, n := 65, pin := [] }
noncomputable def m0 (N : Nat) (a0 : Disk) (a1 : List Int) (lp3 : Int × Int × Int × (List File) → Option R) : Option R :=
  ob (spec_l03Own.m N a0) fun y1 =>
  lp3 ((0:Int), (0:Int), y1.Room, y1.Files)
theorem run (N : Nat) (o0 : Orc E R) (a0 : Disk) (a1 : List Int) : runF T (G N) live [] Try.f148 code (sp N) o0 (a0, a1, ()) = m0 N a0 a1 (fun a => o0 loop3 (K3 N o0) (St3 a0 a1 a)) := by kernel_rfl
theorem body3_0 (N : Nat) (o0 : Orc E R) (o1 : Orc E R) (q1 : St E → Option R) (a0 : Disk) (a1 : List Int) (v1 : Int) (v2 : Int) (v3 : Int) (v4 : List File) : runA T (G N) live [] o1 body3 (St3 a0 a1 (v1, v2, v3, v4)) (kloop [1, 4, 5, 6] q1 (K3 N o0)) = step3 N a0 a1 (fun a => q1 (St3 a0 a1 a)) (v1, v2, v3, v4) := by kernel_rfl
theorem lp3_eq (N : Nat) (a0 : Disk) (a1 : List Int) (a : Int × Int × Int × (List File)) : (orc T (G N) live [] N 2) loop3 (K3 N (orc T (G N) live [] N 2)) (St3 a0 a1 a) = lp3 N a0 a1 a :=
  (orc_loop (b := body3) (live := [1, 4, 5, 6]) (by kernel_rfl)).trans (iter_eq (St3 a0 a1) _ _ (fun q1 a => by
    have hc := congrFun (congrFun (rfl : (step3 N a0 a1) = (step3 N a0 a1)) (fun a => q1 (St3 a0 a1 a))) a
    obtain ⟨u0, u1, u2, u3⟩ := a
    exact (body3_0 N (orc T (G N) live [] N 2) (orc T (G N) live [] N 1) q1 a0 a1 u0 u1 u2 u3).trans hc) N a)
theorem G_ok (N : Nat) : GamOK Try.prog (G N) := gam_ok (l := [(79, [], spec_l03Own.sp N)]) (⟨spec_l03Own.snd N, trivial⟩)
theorem snd (N : Nat) : Sound Try.prog E 148 (sp N) :=
  Mir.sound T_OK (G_ok N) mixed Try.func148 (c := code) (by kernel_rfl) (by kernel_rfl) (sp N) (Nat.le_of_ble_eq_true (by kernel_rfl)) live [] (by
    rintro ⟨a0, a1, _⟩ r h
    exact ⟨N, 2, ((run N _ a0 a1).trans (congrArg (m0 N a0 a1) (funext fun a => lp3_eq N a0 a1 a))).trans h⟩)
end spec_l03Crash
namespace spec_l03Without
noncomputable def code : Code := Try.f151.body.getD .skip
abbrev live : Live := []
noncomputable def G (N : Nat) : Ctx E := gam []
noncomputable def m0 (N : Nat) (a0 : Disk) (a1 : Int) : Option R :=
  bif (decide (0 ≤ a1)) then
  bif (decide (a1 ≤ ((a0.Files.length : Nat) : Int))) then
  bif (room (([] : List File).length + (a0.Files.take (Int.toNat a1)).length) 40) then
  bif (decide (0 ≤ (w64 (a1 + (1:Int))))) then
  bif (decide ((w64 (a1 + (1:Int))) ≤ ((a0.Files.length : Nat) : Int))) then
  bif (room ((([] : List File) ++ (a0.Files.take (Int.toNat a1))).length + (a0.Files.drop (Int.toNat (w64 (a1 + (1:Int))))).length) 40) then
  some (Disk.mk a0.Room ((([] : List File) ++ (a0.Files.take (Int.toNat a1))) ++ (a0.Files.drop (Int.toNat (w64 (a1 + (1:Int)))))))
  else none
  else none
  else none
  else none
  else none
  else none
theorem run (N : Nat) (o0 : Orc E R) (a0 : Disk) (a1 : Int) : runF T (G N) live [] Try.f151 code (sp N) o0 (a0, a1, ()) = m0 N a0 a1 := by kernel_rfl
theorem G_ok (N : Nat) : GamOK Try.prog (G N) := gam_ok (l := []) (trivial)
theorem snd (N : Nat) : Sound Try.prog E 151 (sp N) :=
  Mir.sound T_OK (G_ok N) mixed Try.func151 (c := code) (by kernel_rfl) (by kernel_rfl) (sp N) (Nat.le_of_ble_eq_true (by kernel_rfl)) live [] (by
    rintro ⟨a0, a1, _⟩ r h
    exact ⟨N, 2, ((run N _ a0 a1).trans rfl).trans h⟩)
end spec_l03Without
namespace spec_l03Step
noncomputable def code : Code := Try.f78.body.getD .skip
abbrev live : Live := []
noncomputable def G (N : Nat) : Ctx E := gam [(147, [], spec_l03Append.sp N), (148, [], spec_l03Crash.sp N), (149, [], spec_l03Find.sp N), (150, [], spec_l03Put.sp N), (151, [], spec_l03Without.sp N), (135, [], spec_l01In.sp N), (152, [], spec_NameOK.sp N)]
noncomputable def m0 (N : Nat) (a0 : Disk) (a1 : FileAct) : Option R :=
  bif (a1.Kind == (1:Int)) then
    ob (spec_l03Append.m N a0 a1) fun y1 =>
    some (y1.1, y1.2)
  else
  bif (a1.Kind == (5:Int)) then
    ob (spec_l03Crash.m N a0 a1.Keep) fun y2 =>
    some (y2, (0:Int))
  else
  bif (a1.Kind == (2:Int)) then
    ob (spec_l03Find.m N a0 a1.Name) fun y3 =>
    bif (decide (y3 < (0:Int))) then
      some (a0, (5:Int))
    else
    bif (decide (0 ≤ y3)) then
    bif (decide (y3 < (a0.Files.length : Int))) then
    bif (a1.Kind == (2:Int)) then
      ob (spec_l03Put.m N a0 (File.mk ((a0.Files.getD (Int.toNat y3) File.dz).Name) ((a0.Files.getD (Int.toNat y3) File.dz).Data) (((a0.Files.getD (Int.toNat y3) File.dz).Data).size : Int))) fun y4 =>
      some (y4, (0:Int))
    else
    bif (a1.Kind == (4:Int)) then
      ob (spec_l03Without.m N a0 y3) fun y5 =>
      some (y5, (0:Int))
    else
    bif (a1.Kind == (6:Int)) then
      ob (spec_l01In.m N a1.N (0:Int) (((a0.Files.getD (Int.toNat y3) File.dz).Data).size : Int)) fun y6 =>
      bif (!y6) then
        some (a0, (4:Int))
      else
      bif (decide (0 ≤ a1.N)) then
      bif (decide (a1.N ≤ ((((a0.Files.getD (Int.toNat y3) File.dz).Data).size : Nat) : Int))) then
      ob (spec_l03Put.m N a0 (File.mk ((a0.Files.getD (Int.toNat y3) File.dz).Name) (((a0.Files.getD (Int.toNat y3) File.dz).Data).extract 0 (Int.toNat a1.N)) (if a1.N < (a0.Files.getD (Int.toNat y3) File.dz).Sure then a1.N else (a0.Files.getD (Int.toNat y3) File.dz).Sure))) fun y7 =>
      some (y7, (0:Int))
      else none
      else none
    else
    ob (spec_NameOK.m N a1.To) fun y8 =>
    bif (!y8) then
      some (a0, (1:Int))
    else
    ob (spec_l03Without.m N a0 y3) fun y9 =>
    ob (spec_l03Put.m N y9 (File.mk a1.To ((a0.Files.getD (Int.toNat y3) File.dz).Data) ((a0.Files.getD (Int.toNat y3) File.dz).Sure))) fun y10 =>
    some (y10, (0:Int))
    else none
    else none
  else
  bif (a1.Kind == (3:Int)) then
    ob (spec_l03Find.m N a0 a1.Name) fun y11 =>
    bif (decide (y11 < (0:Int))) then
      some (a0, (5:Int))
    else
    bif (decide (0 ≤ y11)) then
    bif (decide (y11 < (a0.Files.length : Int))) then
    bif (a1.Kind == (2:Int)) then
      ob (spec_l03Put.m N a0 (File.mk ((a0.Files.getD (Int.toNat y11) File.dz).Name) ((a0.Files.getD (Int.toNat y11) File.dz).Data) (((a0.Files.getD (Int.toNat y11) File.dz).Data).size : Int))) fun y12 =>
      some (y12, (0:Int))
    else
    bif (a1.Kind == (4:Int)) then
      ob (spec_l03Without.m N a0 y11) fun y13 =>
      some (y13, (0:Int))
    else
    bif (a1.Kind == (6:Int)) then
      ob (spec_l01In.m N a1.N (0:Int) (((a0.Files.getD (Int.toNat y11) File.dz).Data).size : Int)) fun y14 =>
      bif (!y14) then
        some (a0, (4:Int))
      else
      bif (decide (0 ≤ a1.N)) then
      bif (decide (a1.N ≤ ((((a0.Files.getD (Int.toNat y11) File.dz).Data).size : Nat) : Int))) then
      ob (spec_l03Put.m N a0 (File.mk ((a0.Files.getD (Int.toNat y11) File.dz).Name) (((a0.Files.getD (Int.toNat y11) File.dz).Data).extract 0 (Int.toNat a1.N)) (if a1.N < (a0.Files.getD (Int.toNat y11) File.dz).Sure then a1.N else (a0.Files.getD (Int.toNat y11) File.dz).Sure))) fun y15 =>
      some (y15, (0:Int))
      else none
      else none
    else
    ob (spec_NameOK.m N a1.To) fun y16 =>
    bif (!y16) then
      some (a0, (1:Int))
    else
    ob (spec_l03Without.m N a0 y11) fun y17 =>
    ob (spec_l03Put.m N y17 (File.mk a1.To ((a0.Files.getD (Int.toNat y11) File.dz).Data) ((a0.Files.getD (Int.toNat y11) File.dz).Sure))) fun y18 =>
    some (y18, (0:Int))
    else none
    else none
  else
  bif (a1.Kind == (4:Int)) then
    ob (spec_l03Find.m N a0 a1.Name) fun y19 =>
    bif (decide (y19 < (0:Int))) then
      some (a0, (5:Int))
    else
    bif (decide (0 ≤ y19)) then
    bif (decide (y19 < (a0.Files.length : Int))) then
    bif (a1.Kind == (2:Int)) then
      ob (spec_l03Put.m N a0 (File.mk ((a0.Files.getD (Int.toNat y19) File.dz).Name) ((a0.Files.getD (Int.toNat y19) File.dz).Data) (((a0.Files.getD (Int.toNat y19) File.dz).Data).size : Int))) fun y20 =>
      some (y20, (0:Int))
    else
    bif (a1.Kind == (4:Int)) then
      ob (spec_l03Without.m N a0 y19) fun y21 =>
      some (y21, (0:Int))
    else
    bif (a1.Kind == (6:Int)) then
      ob (spec_l01In.m N a1.N (0:Int) (((a0.Files.getD (Int.toNat y19) File.dz).Data).size : Int)) fun y22 =>
      bif (!y22) then
        some (a0, (4:Int))
      else
      bif (decide (0 ≤ a1.N)) then
      bif (decide (a1.N ≤ ((((a0.Files.getD (Int.toNat y19) File.dz).Data).size : Nat) : Int))) then
      ob (spec_l03Put.m N a0 (File.mk ((a0.Files.getD (Int.toNat y19) File.dz).Name) (((a0.Files.getD (Int.toNat y19) File.dz).Data).extract 0 (Int.toNat a1.N)) (if a1.N < (a0.Files.getD (Int.toNat y19) File.dz).Sure then a1.N else (a0.Files.getD (Int.toNat y19) File.dz).Sure))) fun y23 =>
      some (y23, (0:Int))
      else none
      else none
    else
    ob (spec_NameOK.m N a1.To) fun y24 =>
    bif (!y24) then
      some (a0, (1:Int))
    else
    ob (spec_l03Without.m N a0 y19) fun y25 =>
    ob (spec_l03Put.m N y25 (File.mk a1.To ((a0.Files.getD (Int.toNat y19) File.dz).Data) ((a0.Files.getD (Int.toNat y19) File.dz).Sure))) fun y26 =>
    some (y26, (0:Int))
    else none
    else none
  else
  bif (a1.Kind == (6:Int)) then
    ob (spec_l03Find.m N a0 a1.Name) fun y27 =>
    bif (decide (y27 < (0:Int))) then
      some (a0, (5:Int))
    else
    bif (decide (0 ≤ y27)) then
    bif (decide (y27 < (a0.Files.length : Int))) then
    bif (a1.Kind == (2:Int)) then
      ob (spec_l03Put.m N a0 (File.mk ((a0.Files.getD (Int.toNat y27) File.dz).Name) ((a0.Files.getD (Int.toNat y27) File.dz).Data) (((a0.Files.getD (Int.toNat y27) File.dz).Data).size : Int))) fun y28 =>
      some (y28, (0:Int))
    else
    bif (a1.Kind == (4:Int)) then
      ob (spec_l03Without.m N a0 y27) fun y29 =>
      some (y29, (0:Int))
    else
    bif (a1.Kind == (6:Int)) then
      ob (spec_l01In.m N a1.N (0:Int) (((a0.Files.getD (Int.toNat y27) File.dz).Data).size : Int)) fun y30 =>
      bif (!y30) then
        some (a0, (4:Int))
      else
      bif (decide (0 ≤ a1.N)) then
      bif (decide (a1.N ≤ ((((a0.Files.getD (Int.toNat y27) File.dz).Data).size : Nat) : Int))) then
      ob (spec_l03Put.m N a0 (File.mk ((a0.Files.getD (Int.toNat y27) File.dz).Name) (((a0.Files.getD (Int.toNat y27) File.dz).Data).extract 0 (Int.toNat a1.N)) (if a1.N < (a0.Files.getD (Int.toNat y27) File.dz).Sure then a1.N else (a0.Files.getD (Int.toNat y27) File.dz).Sure))) fun y31 =>
      some (y31, (0:Int))
      else none
      else none
    else
    ob (spec_NameOK.m N a1.To) fun y32 =>
    bif (!y32) then
      some (a0, (1:Int))
    else
    ob (spec_l03Without.m N a0 y27) fun y33 =>
    ob (spec_l03Put.m N y33 (File.mk a1.To ((a0.Files.getD (Int.toNat y27) File.dz).Data) ((a0.Files.getD (Int.toNat y27) File.dz).Sure))) fun y34 =>
    some (y34, (0:Int))
    else none
    else none
  else
  some (a0, (3:Int))
theorem run (N : Nat) (o0 : Orc E R) (a0 : Disk) (a1 : FileAct) : runF T (G N) live [] Try.f78 code (sp N) o0 (a0, a1, ()) = m0 N a0 a1 := by kernel_rfl
theorem G_ok (N : Nat) : GamOK Try.prog (G N) := gam_ok (l := [(147, [], spec_l03Append.sp N), (148, [], spec_l03Crash.sp N), (149, [], spec_l03Find.sp N), (150, [], spec_l03Put.sp N), (151, [], spec_l03Without.sp N), (135, [], spec_l01In.sp N), (152, [], spec_NameOK.sp N)]) (⟨spec_l03Append.snd N, spec_l03Crash.snd N, spec_l03Find.snd N, spec_l03Put.snd N, spec_l03Without.snd N, spec_l01In.snd N, spec_NameOK.snd N, trivial⟩)
theorem snd (N : Nat) : Sound Try.prog E 78 (sp N) :=
  Mir.sound T_OK (G_ok N) mixed Try.func78 (c := code) (by kernel_rfl) (by kernel_rfl) (sp N) (Nat.le_of_ble_eq_true (by kernel_rfl)) live [] (by
    rintro ⟨a0, a1, _⟩ r h
    exact ⟨N, 2, ((run N _ a0 a1).trans rfl).trans h⟩)
end spec_l03Step
namespace spec_FileRun
noncomputable def code : Code := Try.f16.body.getD .skip
abbrev live : Live := [(10, [1, 4, 7, 9, 10])]
noncomputable def G (N : Nat) : Ctx E := gam [(77, [], spec_NewDisk.sp N), (78, [], spec_l03Step.sp N), (79, [], spec_l03Own.sp N)]
noncomputable def loop10 : Code := codeAt code [1, 1, 1, 1, 1, 1, 0, 1, 0]
noncomputable def body10 : Code := codeAt loop10 [0]
noncomputable def K10 (N : Nat) (o0 : Orc E R) : KT E R := kAt T (G N) live [] o0 code [1, 1, 1, 1, 1, 1, 0, 1, 0] (kfin T Try.f16 (sp N))
noncomputable def St10 (a0 : Int) (a1 : List FileAct) : A10 → St E
  | .s0 v1 v2 v3 v4 v5 => { ρ := [(1, .c (.at (.ro 40 (.st 40) a1))), (4, .c (.at (.ptr 0 0))), (7, .c (.at (.ptr 1 0))), (9, .c (.at (.own 3))), (10, .c (.at (.int .i64 v1)))], H := [(0, .box 27 [.int .i64 v2, .nils]), (1, .box 27 [.int .i64 v3, .own 2]), (2, .row 42 (.st 42) v4 false), (3, .row 3 (.int .i64) v5 false)], nx := 4, n := 83, pin := [] }
  | .s1 v1 v2 v3 v4 v5 => { ρ := [(1, .c (.at (.ro 40 (.st 40) a1))), (4, .c (.at (.ptr 0 0))), (7, .c (.at (.ptr 1 0))), (9, .c (.at (.own 2))), (10, .c (.at (.int .i64 v1)))], H := [(0, .box 27 [.int .i64 v2, .nils]), (1, .box 27 [.int .i64 v3, .ro 42 (.st 42) v4]), (2, .row 3 (.int .i64) v5 false)], nx := 3, n := 83, pin := [] }
noncomputable def m0 (N : Nat) (a0 : Int) (a1 : List FileAct) (lp10 : A10 → Option R) : Option R :=
  bif (decide ((a1.length : Int) > (4096:Int))) then
    some ((Disk.mk (0:Int) ([] : List File)), ([] : List Int), (2:Int))
  else
  ob (spec_NewDisk.m N a0) fun y1 =>
  bif (y1.2 != (0:Int)) then
    some ((Disk.mk (0:Int) ([] : List File)), ([] : List Int), y1.2)
  else
  bif (decide ((a1.length : Int) > (120:Int))) then
    some ((Disk.mk (0:Int) ([] : List File)), ([] : List Int), (6:Int))
  else
  lp10 (.s0 (0:Int) (0:Int) y1.1.Room y1.1.Files ([] : List Int))
theorem run (N : Nat) (o0 : Orc E R) (a0 : Int) (a1 : List FileAct) : runF T (G N) live [] Try.f16 code (sp N) o0 (a0, a1, ()) = m0 N a0 a1 (fun a => o0 loop10 (K10 N o0) (St10 a0 a1 a)) := by kernel_rfl
theorem body10_0 (N : Nat) (o0 : Orc E R) (o1 : Orc E R) (q1 : St E → Option R) (a0 : Int) (a1 : List FileAct) (v1 : Int) (v2 : Int) (v3 : Int) (v4 : List File) (v5 : List Int) : runA T (G N) live [] o1 body10 (St10 a0 a1 (.s0 v1 v2 v3 v4 v5)) (kloop [1, 4, 7, 9, 10] q1 (K10 N o0)) = step10 N a0 a1 (fun a => q1 (St10 a0 a1 a)) (.s0 v1 v2 v3 v4 v5) := by kernel_rfl
theorem body10_1 (N : Nat) (o0 : Orc E R) (o1 : Orc E R) (q1 : St E → Option R) (a0 : Int) (a1 : List FileAct) (v1 : Int) (v2 : Int) (v3 : Int) (v4 : List File) (v5 : List Int) : runA T (G N) live [] o1 body10 (St10 a0 a1 (.s1 v1 v2 v3 v4 v5)) (kloop [1, 4, 7, 9, 10] q1 (K10 N o0)) = step10 N a0 a1 (fun a => q1 (St10 a0 a1 a)) (.s1 v1 v2 v3 v4 v5) := by kernel_rfl
theorem lp10_eq (N : Nat) (a0 : Int) (a1 : List FileAct) (a : A10) : (orc T (G N) live [] N 2) loop10 (K10 N (orc T (G N) live [] N 2)) (St10 a0 a1 a) = lp10 N a0 a1 a :=
  (orc_loop (b := body10) (live := [1, 4, 7, 9, 10]) (by kernel_rfl)).trans (iter_eq (St10 a0 a1) _ _ (fun q1 a => by
    have hc := congrFun (congrFun (rfl : (step10 N a0 a1) = (step10 N a0 a1)) (fun a => q1 (St10 a0 a1 a))) a
    cases a with
    | s0 u0 u1 u2 u3 u4 => exact (body10_0 N (orc T (G N) live [] N 2) (orc T (G N) live [] N 1) q1 a0 a1 u0 u1 u2 u3 u4).trans hc
    | s1 u0 u1 u2 u3 u4 => exact (body10_1 N (orc T (G N) live [] N 2) (orc T (G N) live [] N 1) q1 a0 a1 u0 u1 u2 u3 u4).trans hc) N a)
theorem G_ok (N : Nat) : GamOK Try.prog (G N) := gam_ok (l := [(77, [], spec_NewDisk.sp N), (78, [], spec_l03Step.sp N), (79, [], spec_l03Own.sp N)]) (⟨spec_NewDisk.snd N, spec_l03Step.snd N, spec_l03Own.snd N, trivial⟩)
theorem snd (N : Nat) : Sound Try.prog E 16 (sp N) :=
  Mir.sound T_OK (G_ok N) mixed Try.func16 (c := code) (by kernel_rfl) (by kernel_rfl) (sp N) (Nat.le_of_ble_eq_true (by kernel_rfl)) live [] (by
    rintro ⟨a0, a1, _⟩ r h
    exact ⟨N, 2, ((run N _ a0 a1).trans (congrArg (m0 N a0 a1) (funext fun a => lp10_eq N a0 a1 a))).trans h⟩)
end spec_FileRun
namespace impl_DiskOK
noncomputable def code : Code := Try.f20.body.getD .skip
abbrev live : Live := [(4, [1, 23, 24, 25])]
noncomputable def G (N : Nat) : Ctx E := gam [(81, [], impl_within.sp N), (80, [], impl_Disk_used.sp N), (82, [], impl_NameOK.sp N)]
noncomputable def loop4 : Code := codeAt code [1, 1, 0, 1, 0]
noncomputable def body4 : Code := codeAt loop4 [0]
noncomputable def K4 (N : Nat) (o0 : Orc E R) : KT E R := kAt T (G N) live [] o0 code [1, 1, 0, 1, 0] (kfin T Try.f20 (sp N))
noncomputable def St4 (a0 : Disk) : (Int × Int) → St E
  | (v1, v2) => { ρ := [(1, .c (.at (.ptr 0 0))), (23, .c (.at (.ro 42 (.st 42) a0.Files))), (24, .c (.at (.int .i64 v1))), (25, .c (.at (.int .i64 v2)))], H := [(0, .box 27 [.int .i64 a0.Room, .ro 42 (.st 42) a0.Files])], nx := 1, n := 60, pin := [] }
noncomputable def m0 (N : Nat) (a0 : Disk) (lp4 : Int × Int → Option R) : Option R :=
  ob (impl_within.m N a0.Room (0:Int) (3000:Int)) fun y1 =>
  bif (!y1) then
    some false
  else
  bif (bif false then true else (decide ((a0.Files.length : Int) > (8:Int)))) then
    some false
  else
  ob (impl_Disk_used.m N a0) fun y2 =>
  bif (bif false then true else (decide (y2 > a0.Room))) then
    some false
  else
  lp4 ((a0.Files.length : Int), (0:Int))
theorem run (N : Nat) (o0 : Orc E R) (a0 : Disk) : runF T (G N) live [] Try.f20 code (sp N) o0 (a0, ()) = m0 N a0 (fun a => o0 loop4 (K4 N o0) (St4 a0 a)) := by kernel_rfl
theorem body4_0 (N : Nat) (o0 : Orc E R) (o1 : Orc E R) (q1 : St E → Option R) (a0 : Disk) (v1 : Int) (v2 : Int) : runA T (G N) live [] o1 body4 (St4 a0 (v1, v2)) (kloop [1, 23, 24, 25] q1 (K4 N o0)) = step4 N a0 (fun a => q1 (St4 a0 a)) (v1, v2) := by kernel_rfl
theorem lp4_eq (N : Nat) (a0 : Disk) (a : Int × Int) : (orc T (G N) live [] N 2) loop4 (K4 N (orc T (G N) live [] N 2)) (St4 a0 a) = lp4 N a0 a :=
  (orc_loop (b := body4) (live := [1, 23, 24, 25]) (by kernel_rfl)).trans (iter_eq (St4 a0) _ _ (fun q1 a => by
    have hc := congrFun (congrFun (rfl : (step4 N a0) = (step4 N a0)) (fun a => q1 (St4 a0 a))) a
    obtain ⟨u0, u1⟩ := a
    exact (body4_0 N (orc T (G N) live [] N 2) (orc T (G N) live [] N 1) q1 a0 u0 u1).trans hc) N a)
theorem G_ok (N : Nat) : GamOK Try.prog (G N) := gam_ok (l := [(81, [], impl_within.sp N), (80, [], impl_Disk_used.sp N), (82, [], impl_NameOK.sp N)]) (⟨impl_within.snd N, impl_Disk_used.snd N, impl_NameOK.snd N, trivial⟩)
theorem snd (N : Nat) : Sound Try.prog E 20 (sp N) :=
  Mir.sound T_OK (G_ok N) mixed Try.func20 (c := code) (by kernel_rfl) (by kernel_rfl) (sp N) (Nat.le_of_ble_eq_true (by kernel_rfl)) live [] (by
    rintro ⟨a0, _⟩ r h
    exact ⟨N, 2, ((run N _ a0).trans (congrArg (m0 N a0) (funext fun a => lp4_eq N a0 a))).trans h⟩)
end impl_DiskOK
namespace impl_DiskUsed
noncomputable def code : Code := Try.f17.body.getD .skip
abbrev live : Live := []
noncomputable def G (N : Nat) : Ctx E := gam [(20, [], impl_DiskOK.sp N), (80, [], impl_Disk_used.sp N)]
noncomputable def m0 (N : Nat) (a0 : Disk) : Option R :=
  ob (impl_DiskOK.m N a0) fun y1 =>
  bif (!y1) then
    some ((0:Int), (1:Int))
  else
  ob (impl_Disk_used.m N a0) fun y2 =>
  some (y2, (0:Int))
theorem run (N : Nat) (o0 : Orc E R) (a0 : Disk) : runF T (G N) live [] Try.f17 code (sp N) o0 (a0, ()) = m0 N a0 := by kernel_rfl
theorem G_ok (N : Nat) : GamOK Try.prog (G N) := gam_ok (l := [(20, [], impl_DiskOK.sp N), (80, [], impl_Disk_used.sp N)]) (⟨impl_DiskOK.snd N, impl_Disk_used.snd N, trivial⟩)
theorem snd (N : Nat) : Sound Try.prog E 17 (sp N) :=
  Mir.sound T_OK (G_ok N) mixed Try.func17 (c := code) (by kernel_rfl) (by kernel_rfl) (sp N) (Nat.le_of_ble_eq_true (by kernel_rfl)) live [] (by
    rintro ⟨a0, _⟩ r h
    exact ⟨N, 2, ((run N _ a0).trans rfl).trans h⟩)
end impl_DiskUsed
namespace laws_sameInts
noncomputable def code : Code := Try.f18.body.getD .skip
abbrev live : Live := [(4, [0, 1, 5])]
noncomputable def G (N : Nat) : Ctx E := gam []
noncomputable def loop4 : Code := codeAt code [1, 1, 0, 1, 0]
noncomputable def body4 : Code := codeAt loop4 [0]
noncomputable def K4 (N : Nat) (o0 : Orc E R) : KT E R := kAt T (G N) live [] o0 code [1, 1, 0, 1, 0] (kfin T Try.f18 (sp N))
noncomputable def St4 (a0 : List Int) (a1 : List Int) : Int → St E
  | v2 => { ρ := [(0, .c (.at (.ro 3 (.int .i64) a0))), (1, .c (.at (.ro 3 (.int .i64) a1))), (5, .c (.at (.int .i64 v2)))], H := [], nx := 0, n := 26, pin := [] }
noncomputable def m0 (N : Nat) (a0 : List Int) (a1 : List Int) (lp4 : Int → Option R) : Option R :=
  bif ((a0.length : Int) != (a1.length : Int)) then
    some false
  else
  lp4 (0:Int)
theorem run (N : Nat) (o0 : Orc E R) (a0 : List Int) (a1 : List Int) : runF T (G N) live [] Try.f18 code (sp N) o0 (a0, a1, ()) = m0 N a0 a1 (fun a => o0 loop4 (K4 N o0) (St4 a0 a1 a)) := by kernel_rfl
theorem body4_0 (N : Nat) (o0 : Orc E R) (o1 : Orc E R) (q1 : St E → Option R) (a0 : List Int) (a1 : List Int) (v2 : Int) : runA T (G N) live [] o1 body4 (St4 a0 a1 v2) (kloop [0, 1, 5] q1 (K4 N o0)) = step4 N a0 a1 (fun a => q1 (St4 a0 a1 a)) v2 := by kernel_rfl
theorem lp4_eq (N : Nat) (a0 : List Int) (a1 : List Int) (a : Int) : (orc T (G N) live [] N 2) loop4 (K4 N (orc T (G N) live [] N 2)) (St4 a0 a1 a) = lp4 N a0 a1 a :=
  (orc_loop (b := body4) (live := [0, 1, 5]) (by kernel_rfl)).trans (iter_eq (St4 a0 a1) _ _ (fun q1 a => by
    have hc := congrFun (congrFun (rfl : (step4 N a0 a1) = (step4 N a0 a1)) (fun a => q1 (St4 a0 a1 a))) a
    exact (body4_0 N (orc T (G N) live [] N 2) (orc T (G N) live [] N 1) q1 a0 a1 a).trans hc) N a)
theorem G_ok (N : Nat) : GamOK Try.prog (G N) := gam_ok (l := []) (trivial)
theorem snd (N : Nat) : Sound Try.prog E 18 (sp N) :=
  Mir.sound T_OK (G_ok N) mixed Try.func18 (c := code) (by kernel_rfl) (by kernel_rfl) (sp N) (Nat.le_of_ble_eq_true (by kernel_rfl)) live [] (by
    rintro ⟨a0, a1, _⟩ r h
    exact ⟨N, 2, ((run N _ a0 a1).trans (congrArg (m0 N a0 a1) (funext fun a => lp4_eq N a0 a1 a))).trans h⟩)
end laws_sameInts
namespace laws_sameDisk
noncomputable def code : Code := Try.f19.body.getD .skip
abbrev live : Live := [(4, [2, 3, 5])]
noncomputable def G (N : Nat) : Ctx E := gam []
noncomputable def loop4 : Code := codeAt code [1, 1, 0, 1, 0]
noncomputable def body4 : Code := codeAt loop4 [0]
noncomputable def K4 (N : Nat) (o0 : Orc E R) : KT E R := kAt T (G N) live [] o0 code [1, 1, 0, 1, 0] (kfin T Try.f19 (sp N))
noncomputable def St4 (a0 : Disk) (a1 : Disk) : Int → St E
  | v0 => { ρ := [(2, .c (.at (.ptr 0 0))), (3, .c (.at (.ptr 1 0))), (5, .c (.at (.int .i64 v0)))], H := [(0, .box 27 [.int .i64 a0.Room, .ro 42 (.st 42) a0.Files]), (1, .box 27 [.int .i64 a1.Room, .ro 42 (.st 42) a1.Files])], nx := 2, n := 38, pin := [] }
noncomputable def m0 (N : Nat) (a0 : Disk) (a1 : Disk) (lp4 : Int → Option R) : Option R :=
  bif (a0.Room != a1.Room) then
    some false
  else
  bif (bif false then true else ((a0.Files.length : Int) != (a1.Files.length : Int))) then
    some false
  else
  lp4 (0:Int)
theorem run (N : Nat) (o0 : Orc E R) (a0 : Disk) (a1 : Disk) : runF T (G N) live [] Try.f19 code (sp N) o0 (a0, a1, ()) = m0 N a0 a1 (fun a => o0 loop4 (K4 N o0) (St4 a0 a1 a)) := by kernel_rfl
theorem body4_0 (N : Nat) (o0 : Orc E R) (o1 : Orc E R) (q1 : St E → Option R) (a0 : Disk) (a1 : Disk) (v0 : Int) : runA T (G N) live [] o1 body4 (St4 a0 a1 v0) (kloop [2, 3, 5] q1 (K4 N o0)) = step4 N a0 a1 (fun a => q1 (St4 a0 a1 a)) v0 := by kernel_rfl
theorem lp4_eq (N : Nat) (a0 : Disk) (a1 : Disk) (a : Int) : (orc T (G N) live [] N 2) loop4 (K4 N (orc T (G N) live [] N 2)) (St4 a0 a1 a) = lp4 N a0 a1 a :=
  (orc_loop (b := body4) (live := [2, 3, 5]) (by kernel_rfl)).trans (iter_eq (St4 a0 a1) _ _ (fun q1 a => by
    have hc := congrFun (congrFun (rfl : (step4 N a0 a1) = (step4 N a0 a1)) (fun a => q1 (St4 a0 a1 a))) a
    exact (body4_0 N (orc T (G N) live [] N 2) (orc T (G N) live [] N 1) q1 a0 a1 a).trans hc) N a)
theorem G_ok (N : Nat) : GamOK Try.prog (G N) := gam_ok (l := []) (trivial)
theorem snd (N : Nat) : Sound Try.prog E 19 (sp N) :=
  Mir.sound T_OK (G_ok N) mixed Try.func19 (c := code) (by kernel_rfl) (by kernel_rfl) (sp N) (Nat.le_of_ble_eq_true (by kernel_rfl)) live [] (by
    rintro ⟨a0, a1, _⟩ r h
    exact ⟨N, 2, ((run N _ a0 a1).trans (congrArg (m0 N a0 a1) (funext fun a => lp4_eq N a0 a1 a))).trans h⟩)
end laws_sameDisk
namespace laws_at
noncomputable def code : Code := Try.f21.body.getD .skip
abbrev live : Live := []
noncomputable def G (N : Nat) : Ctx E := gam []
noncomputable def m0 (N : Nat) (a0 : List Int) (a1 : Int) (a2 : Int) : Option R :=
  bif (decide (a2 ≤ (1:Int))) then
    some (0:Int)
  else
  bif ((a0.length : Int) == (0:Int)) then
    bif (!decide (a2 = 0)) then
    some (Int.tmod (w64 (a1 * (7:Int))) a2)
    else none
  else
  bif (!decide ((a0.length : Int) = 0)) then
  bif (decide (0 ≤ (Int.tmod a1 (a0.length : Int)))) then
  bif (decide ((Int.tmod a1 (a0.length : Int)) < (a0.length : Int))) then
  bif (!decide ((a0.length : Int) = 0)) then
  bif (decide (0 ≤ (Int.tmod (w64 (a1 + (1:Int))) (a0.length : Int)))) then
  bif (decide ((Int.tmod (w64 (a1 + (1:Int))) (a0.length : Int)) < (a0.length : Int))) then
  (let w1 : Int := (w64 ((w64 ((w64 (a0.getD (Int.toNat (Int.tmod a1 (a0.length : Int))) (0:Int))) * (31:Int))) + (w64 (a0.getD (Int.toNat (Int.tmod (w64 (a1 + (1:Int))) (a0.length : Int))) (0:Int)))))
  bif (!decide ((a0.length : Int) = 0)) then
  bif (!decide (a2 = 0)) then
  some (Int.tmod (w64 (w1 + (w64 (Int.tdiv a1 (a0.length : Int))))) a2)
  else none
  else none)
  else none
  else none
  else none
  else none
  else none
  else none
theorem run (N : Nat) (o0 : Orc E R) (a0 : List Int) (a1 : Int) (a2 : Int) : runF T (G N) live [] Try.f21 code (sp N) o0 (a0, a1, a2, ()) = m0 N a0 a1 a2 := by kernel_rfl
theorem G_ok (N : Nat) : GamOK Try.prog (G N) := gam_ok (l := []) (trivial)
theorem snd (N : Nat) : Sound Try.prog E 21 (sp N) :=
  Mir.sound T_OK (G_ok N) mixed Try.func21 (c := code) (by kernel_rfl) (by kernel_rfl) (sp N) (Nat.le_of_ble_eq_true (by kernel_rfl)) live [] (by
    rintro ⟨a0, a1, a2, _⟩ r h
    exact ⟨N, 2, ((run N _ a0 a1 a2).trans rfl).trans h⟩)
end laws_at
namespace impl_FileStep
noncomputable def code : Code := Try.f22.body.getD .skip
abbrev live : Live := []
noncomputable def G (N : Nat) : Ctx E := gam [(20, [], impl_DiskOK.sp N), (76, [], impl_step.sp N)]
noncomputable def m0 (N : Nat) (a0 : Disk) (a1 : FileAct) : Option R :=
  ob (impl_DiskOK.m N a0) fun y1 =>
  bif (!y1) then
    some ((Disk.mk (0:Int) ([] : List File)), (1:Int))
  else
  ob (impl_step.m N a0 a1) fun y2 =>
  some (y2.1, y2.2)
theorem run (N : Nat) (o0 : Orc E R) (a0 : Disk) (a1 : FileAct) : runF T (G N) live [] Try.f22 code (sp N) o0 (a0, a1, ()) = m0 N a0 a1 := by kernel_rfl
theorem G_ok (N : Nat) : GamOK Try.prog (G N) := gam_ok (l := [(20, [], impl_DiskOK.sp N), (76, [], impl_step.sp N)]) (⟨impl_DiskOK.snd N, impl_step.snd N, trivial⟩)
theorem snd (N : Nat) : Sound Try.prog E 22 (sp N) :=
  Mir.sound T_OK (G_ok N) mixed Try.func22 (c := code) (by kernel_rfl) (by kernel_rfl) (sp N) (Nat.le_of_ble_eq_true (by kernel_rfl)) live [] (by
    rintro ⟨a0, a1, _⟩ r h
    exact ⟨N, 2, ((run N _ a0 a1).trans rfl).trans h⟩)
end impl_FileStep
namespace impl_isText_1
noncomputable def code : Code := Try.f154.body.getD .skip
abbrev live : Live := []
noncomputable def G (N : Nat) : Ctx E := gam []
noncomputable def m0 (N : Nat) (a0 : ByteArray) : Option R :=
  some (decide ((a0.size : Int) > (65536:Int)))
theorem run (N : Nat) (o0 : Orc E R) (a0 : ByteArray) : runF T (G N) live [] Try.f154 code (sp N) o0 (a0, ()) = m0 N a0 := by kernel_rfl
theorem G_ok (N : Nat) : GamOK Try.prog (G N) := gam_ok (l := []) (trivial)
theorem snd (N : Nat) : Sound Try.prog E 154 (sp N) :=
  Mir.sound T_OK (G_ok N) mixed Try.func154 (c := code) (by kernel_rfl) (by kernel_rfl) (sp N) (Nat.le_of_ble_eq_true (by kernel_rfl)) live [] (by
    rintro ⟨a0, _⟩ r h
    exact ⟨N, 2, ((run N _ a0).trans rfl).trans h⟩)
end impl_isText_1
namespace slices_IndexFunc_string_string__impl_isText_1
noncomputable def code : Code := Try.f208.body.getD .skip
abbrev live : Live := [(2, [0, 1, 7, 8])]
noncomputable def G (N : Nat) : Ctx E := gam [(154, [], impl_isText_1.sp N)]
noncomputable def loop2 : Code := codeAt code [1, 0, 1, 0]
noncomputable def body2 : Code := codeAt loop2 [0]
noncomputable def K2 (N : Nat) (o0 : Orc E R) : KT E R := kAt T (G N) live [] o0 code [1, 0, 1, 0] (kfin T Try.f208 (sp N))
noncomputable def St2 (a0 : List ByteArray) : (Int × Int) → St E
  | (v1, v2) => { ρ := [(0, .c (.at (.ro 9 .str a0))), (1, .clo 154 []), (7, .c (.at (.int .i64 v1))), (8, .c (.at (.int .i64 v2)))], H := [], nx := 0, n := 19, pin := [] }
noncomputable def m0 (N : Nat) (a0 : List ByteArray) (lp2 : Int × Int → Option R) : Option R :=
  lp2 ((a0.length : Int), (0:Int))
theorem run (N : Nat) (o0 : Orc E R) (a0 : List ByteArray) : runF T (G N) live [] Try.f208 code (sp N) o0 (a0, (), ()) = m0 N a0 (fun a => o0 loop2 (K2 N o0) (St2 a0 a)) := by kernel_rfl
theorem body2_0 (N : Nat) (o0 : Orc E R) (o1 : Orc E R) (q1 : St E → Option R) (a0 : List ByteArray) (v1 : Int) (v2 : Int) : runA T (G N) live [] o1 body2 (St2 a0 (v1, v2)) (kloop [0, 1, 7, 8] q1 (K2 N o0)) = step2 N a0 (fun a => q1 (St2 a0 a)) (v1, v2) := by kernel_rfl
theorem lp2_eq (N : Nat) (a0 : List ByteArray) (a : Int × Int) : (orc T (G N) live [] N 2) loop2 (K2 N (orc T (G N) live [] N 2)) (St2 a0 a) = lp2 N a0 a :=
  (orc_loop (b := body2) (live := [0, 1, 7, 8]) (by kernel_rfl)).trans (iter_eq (St2 a0) _ _ (fun q1 a => by
    have hc := congrFun (congrFun (rfl : (step2 N a0) = (step2 N a0)) (fun a => q1 (St2 a0 a))) a
    obtain ⟨u0, u1⟩ := a
    exact (body2_0 N (orc T (G N) live [] N 2) (orc T (G N) live [] N 1) q1 a0 u0 u1).trans hc) N a)
theorem G_ok (N : Nat) : GamOK Try.prog (G N) := gam_ok (l := [(154, [], impl_isText_1.sp N)]) (⟨impl_isText_1.snd N, trivial⟩)
theorem snd (N : Nat) : Sound Try.prog E 208 (sp N) :=
  Mir.sound T_OK (G_ok N) mixed Try.func208 (c := code) (by kernel_rfl) (by kernel_rfl) (sp N) (Nat.le_of_ble_eq_true (by kernel_rfl)) live [] (by
    rintro ⟨a0, _, _⟩ r h
    exact ⟨N, 2, ((run N _ a0).trans (congrArg (m0 N a0) (funext fun a => lp2_eq N a0 a))).trans h⟩)
end slices_IndexFunc_string_string__impl_isText_1
namespace slices_ContainsFunc_string_string__impl_isText_1
noncomputable def code : Code := Try.f153.body.getD .skip
abbrev live : Live := []
noncomputable def G (N : Nat) : Ctx E := gam [(208, [154], slices_IndexFunc_string_string__impl_isText_1.sp N)]
noncomputable def m0 (N : Nat) (a0 : List ByteArray) : Option R :=
  ob (slices_IndexFunc_string_string__impl_isText_1.m N a0) fun y1 =>
  some (decide (y1 ≥ (0:Int)))
theorem run (N : Nat) (o0 : Orc E R) (a0 : List ByteArray) : runF T (G N) live [] Try.f153 code (sp N) o0 (a0, (), ()) = m0 N a0 := by kernel_rfl
theorem G_ok (N : Nat) : GamOK Try.prog (G N) := gam_ok (l := [(208, [154], slices_IndexFunc_string_string__impl_isText_1.sp N)]) (⟨slices_IndexFunc_string_string__impl_isText_1.snd N, trivial⟩)
theorem snd (N : Nat) : Sound Try.prog E 153 (sp N) :=
  Mir.sound T_OK (G_ok N) mixed Try.func153 (c := code) (by kernel_rfl) (by kernel_rfl) (sp N) (Nat.le_of_ble_eq_true (by kernel_rfl)) live [] (by
    rintro ⟨a0, _, _⟩ r h
    exact ⟨N, 2, ((run N _ a0).trans rfl).trans h⟩)
end slices_ContainsFunc_string_string__impl_isText_1
namespace impl_isText
noncomputable def code : Code := Try.f83.body.getD .skip
abbrev live : Live := []
noncomputable def G (N : Nat) : Ctx E := gam [(153, [154], slices_ContainsFunc_string_string__impl_isText_1.sp N)]
noncomputable def m0 (N : Nat) (a0 : List ByteArray) : Option R :=
  ob (slices_ContainsFunc_string_string__impl_isText_1.m N a0) fun y1 =>
  some (!y1)
theorem run (N : Nat) (o0 : Orc E R) (a0 : List ByteArray) : runF T (G N) live [] Try.f83 code (sp N) o0 (a0, ()) = m0 N a0 := by kernel_rfl
theorem G_ok (N : Nat) : GamOK Try.prog (G N) := gam_ok (l := [(153, [154], slices_ContainsFunc_string_string__impl_isText_1.sp N)]) (⟨slices_ContainsFunc_string_string__impl_isText_1.snd N, trivial⟩)
theorem snd (N : Nat) : Sound Try.prog E 83 (sp N) :=
  Mir.sound T_OK (G_ok N) mixed Try.func83 (c := code) (by kernel_rfl) (by kernel_rfl) (sp N) (Nat.le_of_ble_eq_true (by kernel_rfl)) live [] (by
    rintro ⟨a0, _⟩ r h
    exact ⟨N, 2, ((run N _ a0).trans rfl).trans h⟩)
end impl_isText
namespace impl_FileData
noncomputable def code : Code := Try.f23.body.getD .skip
abbrev live : Live := []
noncomputable def G (N : Nat) : Ctx E := gam [(83, [], impl_isText.sp N), (20, [], impl_DiskOK.sp N), (84, [], impl_Disk_fileAt.sp N)]
noncomputable def m0 (N : Nat) (a0 : Disk) (a1 : ByteArray) : Option R :=
  ob (impl_isText.m N ([a1])) fun y1 =>
  bif (!y1) then
    some (ByteArray.empty, (2:Int))
  else
  ob (impl_DiskOK.m N a0) fun y2 =>
  bif (!y2) then
    some (ByteArray.empty, (1:Int))
  else
  ob (impl_Disk_fileAt.m N a0 a1) fun y3 =>
  bif (!y3.2) then
    some (ByteArray.empty, (5:Int))
  else
  bif (decide (0 ≤ y3.1)) then
  bif (decide (y3.1 < (a0.Files.length : Int))) then
  some ((a0.Files.getD (Int.toNat y3.1) File.dz).Data, (0:Int))
  else none
  else none
theorem run (N : Nat) (o0 : Orc E R) (a0 : Disk) (a1 : ByteArray) : runF T (G N) live [] Try.f23 code (sp N) o0 (a0, a1, ()) = m0 N a0 a1 := by kernel_rfl
theorem G_ok (N : Nat) : GamOK Try.prog (G N) := gam_ok (l := [(83, [], impl_isText.sp N), (20, [], impl_DiskOK.sp N), (84, [], impl_Disk_fileAt.sp N)]) (⟨impl_isText.snd N, impl_DiskOK.snd N, impl_Disk_fileAt.snd N, trivial⟩)
theorem snd (N : Nat) : Sound Try.prog E 23 (sp N) :=
  Mir.sound T_OK (G_ok N) mixed Try.func23 (c := code) (by kernel_rfl) (by kernel_rfl) (sp N) (Nat.le_of_ble_eq_true (by kernel_rfl)) live [] (by
    rintro ⟨a0, a1, _⟩ r h
    exact ⟨N, 2, ((run N _ a0 a1).trans rfl).trans h⟩)
end impl_FileData
namespace laws_FnFiles
noncomputable def code : Code := Try.f3.body.getD .skip
abbrev live : Live := [(14, [6, 15, 17])]
noncomputable def G (N : Nat) : Ctx E := gam [(14, [], spec_FileActsOf.sp N), (15, [], impl_FileRun.sp N), (16, [], spec_FileRun.sp N), (17, [], impl_DiskUsed.sp N), (18, [], laws_sameInts.sp N), (19, [], laws_sameDisk.sp N), (20, [], impl_DiskOK.sp N), (21, [], laws_at.sp N), (22, [], impl_FileStep.sp N), (23, [], impl_FileData.sp N)]
noncomputable def loop14 : Code := codeAt code [1, 1, 1, 1, 1, 1, 1, 1, 1, 1, 0, 1, 0]
noncomputable def body14 : Code := codeAt loop14 [0]
noncomputable def K14 (N : Nat) (o0 : Orc E R) : KT E R := kAt T (G N) live [] o0 code [1, 1, 1, 1, 1, 1, 1, 1, 1, 1, 0, 1, 0] (kfin T Try.f3 (sp N))
noncomputable def St14 (a0 : List Int) (a1 : List Int) : (Int × Int × (List File) × Int × (List File)) → St E
  | (v0, v1, v2, v3, v4) => { ρ := [(6, .c (.at (.ptr 0 0))), (15, .c (.at (.ptr 2 0))), (17, .c (.at (.int .i64 v0)))], H := [(0, .box 27 [.int .i64 v1, .own 1]), (1, .row 42 (.st 42) v2 false), (2, .box 27 [.int .i64 v3, .own 3]), (3, .row 42 (.st 42) v4 false)], nx := 4, n := 192, pin := [] }
noncomputable def m0 (N : Nat) (a0 : List Int) (a1 : List Int) (lp14 : Int × Int × (List File) × Int × (List File) → Option R) : Option R :=
  bif (decide ((a0.length : Int) > (1048576:Int))) then
    some true
  else
  bif (bif false then true else (decide ((a1.length : Int) > (1048576:Int)))) then
    some true
  else
  ob (spec_FileActsOf.m N a0) fun y1 =>
  ob (impl_FileRun.m N (300:Int) y1) fun y2 =>
  ob (spec_FileRun.m N (300:Int) y1) fun y3 =>
  ob (impl_DiskUsed.m N y2.1) fun y4 =>
  bif (y2.2.2 != (0:Int)) then
    some false
  else
  ob (laws_sameInts.m N y2.2.1 y3.2.1) fun y5 =>
  bif (bif false then true else (!y5)) then
    some false
  else
  ob (laws_sameDisk.m N y2.1 y3.1) fun y6 =>
  bif (bif false then true else (!y6)) then
    some false
  else
  ob (impl_DiskOK.m N y2.1) fun y7 =>
  bif (bif false then true else (!y7)) then
    some false
  else
  bif (bif false then true else (y4.2 != (0:Int))) then
    some false
  else
  bif (bif false then true else (decide (y4.1 > (300:Int)))) then
    some false
  else
  ob (laws_at.m N a1 (0:Int) (30:Int)) fun y8 =>
  ob (laws_at.m N a1 (1:Int) (30:Int)) fun y9 =>
  ob (laws_at.m N a1 (2:Int) (9:Int)) fun y10 =>
  ob (impl_FileStep.m N y2.1 (FileAct.mk (5:Int) (0:Int) ByteArray.empty ByteArray.empty ByteArray.empty ([y8, (w64 (y9 - (3:Int))), y10]))) fun y11 =>
  bif (y11.2 != (0:Int)) then
    some false
  else
  bif (bif false then true else ((y11.1.Files.length : Int) != (y2.1.Files.length : Int))) then
    some false
  else
  lp14 ((0:Int), y2.1.Room, y2.1.Files, y11.1.Room, y11.1.Files)
theorem run (N : Nat) (o0 : Orc E R) (a0 : List Int) (a1 : List Int) : runF T (G N) live [] Try.f3 code (sp N) o0 (a0, a1, ()) = m0 N a0 a1 (fun a => o0 loop14 (K14 N o0) (St14 a0 a1 a)) := by kernel_rfl
theorem body14_0 (N : Nat) (o0 : Orc E R) (o1 : Orc E R) (q1 : St E → Option R) (a0 : List Int) (a1 : List Int) (v0 : Int) (v1 : Int) (v2 : List File) (v3 : Int) (v4 : List File) : runA T (G N) live [] o1 body14 (St14 a0 a1 (v0, v1, v2, v3, v4)) (kloop [6, 15, 17] q1 (K14 N o0)) = step14 N a0 a1 (fun a => q1 (St14 a0 a1 a)) (v0, v1, v2, v3, v4) := by kernel_rfl
theorem lp14_eq (N : Nat) (a0 : List Int) (a1 : List Int) (a : Int × Int × (List File) × Int × (List File)) : (orc T (G N) live [] N 2) loop14 (K14 N (orc T (G N) live [] N 2)) (St14 a0 a1 a) = lp14 N a0 a1 a :=
  (orc_loop (b := body14) (live := [6, 15, 17]) (by kernel_rfl)).trans (iter_eq (St14 a0 a1) _ _ (fun q1 a => by
    have hc := congrFun (congrFun (rfl : (step14 N a0 a1) = (step14 N a0 a1)) (fun a => q1 (St14 a0 a1 a))) a
    obtain ⟨u0, u1, u2, u3, u4⟩ := a
    exact (body14_0 N (orc T (G N) live [] N 2) (orc T (G N) live [] N 1) q1 a0 a1 u0 u1 u2 u3 u4).trans hc) N a)
theorem G_ok (N : Nat) : GamOK Try.prog (G N) := gam_ok (l := [(14, [], spec_FileActsOf.sp N), (15, [], impl_FileRun.sp N), (16, [], spec_FileRun.sp N), (17, [], impl_DiskUsed.sp N), (18, [], laws_sameInts.sp N), (19, [], laws_sameDisk.sp N), (20, [], impl_DiskOK.sp N), (21, [], laws_at.sp N), (22, [], impl_FileStep.sp N), (23, [], impl_FileData.sp N)]) (⟨spec_FileActsOf.snd N, impl_FileRun.snd N, spec_FileRun.snd N, impl_DiskUsed.snd N, laws_sameInts.snd N, laws_sameDisk.snd N, impl_DiskOK.snd N, laws_at.snd N, impl_FileStep.snd N, impl_FileData.snd N, trivial⟩)
theorem snd (N : Nat) : Sound Try.prog E 3 (sp N) :=
  Mir.sound T_OK (G_ok N) mixed Try.func3 (c := code) (by kernel_rfl) (by kernel_rfl) (sp N) (Nat.le_of_ble_eq_true (by kernel_rfl)) live [] (by
    rintro ⟨a0, a1, _⟩ r h
    exact ⟨N, 2, ((run N _ a0 a1).trans (congrArg (m0 N a0 a1) (funext fun a => lp14_eq N a0 a1 a))).trans h⟩)
end laws_FnFiles
end Mir.Y
