/- The models are what the functions do. -/
import Derived.Test.YtojpcjbdehoibaaIM2
import Derived.Test.YtojpcjbdehoibaaICmpLays
import Derived.Test.YtojpcjbdehoibaaIDel206
import Derived.Test.YtojpcjbdehoibaaIIns238
namespace Mir.Y
set_option linter.unusedVariables false
set_option maxRecDepth 10000
open Go Go.Proofs Mir
namespace spec_l00Source
noncomputable def code : Code := Try.f72.body.getD .skip
abbrev live : Live := []
noncomputable def G (N : Nat) : Ctx E := gam []
noncomputable def m0 (N : Nat) (a0 : List Int) : Option R :=
  bif (!decide ((1000:Int) = 0)) then
  some (l00Src.mk a0 (0:Int) (Int.tmod (a0.length : Int) (1000:Int)))
  else none
theorem run (N : Nat) (o0 : Orc E R) (a0 : List Int) : runF T (G N) live [] Try.f72 code (sp N) o0 (a0, ()) = m0 N a0 := by kernel_rfl
theorem G_ok (N : Nat) : GamOK Try.prog (G N) := gam_ok (l := []) (trivial)
theorem snd (N : Nat) : Sound Try.prog E 72 (sp N) :=
  Mir.sound T_OK (G_ok N) mixed Try.func72 (c := code) (by kernel_rfl) (by kernel_rfl) (sp N) (Nat.le_of_ble_eq_true (by kernel_rfl)) live [] (by
    rintro ⟨a0, _⟩ r h
    exact ⟨N, 2, ((run N _ a0).trans rfl).trans h⟩)
end spec_l00Source
namespace spec_l00Src_size_
noncomputable def code : Code := Try.f142.body.getD .skip
abbrev live : Live := []
noncomputable def G (N : Nat) : Ctx E := gam []
noncomputable def m0 (N : Nat) (a0 : l00Src) (a1 : Int) : Option R :=
  bif (!decide ((12:Int) = 0)) then
  (let w1 : Int := (if a1 < (w64 ((1:Int) + (w64 (Int.tdiv (a0.code.length : Int) (12:Int))))) then a1 else (w64 ((1:Int) + (w64 (Int.tdiv (a0.code.length : Int) (12:Int))))))
  some w1)
  else none
theorem run (N : Nat) (o0 : Orc E R) (a0 : l00Src) (a1 : Int) : runF T (G N) live [] Try.f142 code (sp N) o0 (a0, a1, ()) = m0 N a0 a1 := by kernel_rfl
theorem G_ok (N : Nat) : GamOK Try.prog (G N) := gam_ok (l := []) (trivial)
theorem snd (N : Nat) : Sound Try.prog E 142 (sp N) :=
  Mir.sound T_OK (G_ok N) mixed Try.func142 (c := code) (by kernel_rfl) (by kernel_rfl) (sp N) (Nat.le_of_ble_eq_true (by kernel_rfl)) live [] (by
    rintro ⟨a0, a1, _⟩ r h
    exact ⟨N, 2, ((run N _ a0 a1).trans rfl).trans h⟩)
end spec_l00Src_size_
namespace spec_l00Src_byte_
noncomputable def code : Code := Try.f201.body.getD .skip
abbrev live : Live := []
noncomputable def G (N : Nat) : Ctx E := gam []
noncomputable def m0 (N : Nat) (a0 : l00Src) : Option R :=
  bif (decide ((w64 (a0.«at» + (1:Int))) ≤ (a0.code.length : Int))) then
    bif (decide (0 ≤ (w64 ((w64 (a0.«at» + (1:Int))) - (1:Int))))) then
    bif (decide ((w64 ((w64 (a0.«at» + (1:Int))) - (1:Int))) < (a0.code.length : Int))) then
    bif (!decide ((2147483648:Int) = 0)) then
    (let w1 : Int := (Int.tmod (w64 ((w64 ((w64 (a0.seed * (31:Int))) + (w64 (a0.code.getD (Int.toNat (w64 ((w64 (a0.«at» + (1:Int))) - (1:Int)))) (0:Int))))) + (7:Int))) (2147483648:Int))
    bif (decide (0 ≤ (w64 ((w64 (a0.«at» + (1:Int))) - (1:Int))))) then
    bif (decide ((w64 ((w64 (a0.«at» + (1:Int))) - (1:Int))) < (a0.code.length : Int))) then
    some ((w64 (a0.code.getD (Int.toNat (w64 ((w64 (a0.«at» + (1:Int))) - (1:Int)))) (0:Int))), (l00Src.mk a0.code (w64 (a0.«at» + (1:Int))) w1))
    else none
    else none)
    else none
    else none
    else none
  else
  bif (decide ((w64 (a0.«at» + (1:Int))) > (3000:Int))) then
    some ((0:Int), (l00Src.mk a0.code (w64 (a0.«at» + (1:Int))) a0.seed))
  else
  bif (!decide ((2147483648:Int) = 0)) then
  bif (!decide ((65536:Int) = 0)) then
  bif (!decide ((256:Int) = 0)) then
  some ((Int.tmod (w64 (Int.tdiv (Int.tmod (w64 ((w64 (a0.seed * (1103515245:Int))) + (12345:Int))) (2147483648:Int)) (65536:Int))) (256:Int)), (l00Src.mk a0.code (w64 (a0.«at» + (1:Int))) (Int.tmod (w64 ((w64 (a0.seed * (1103515245:Int))) + (12345:Int))) (2147483648:Int))))
  else none
  else none
  else none
theorem run (N : Nat) (o0 : Orc E R) (a0 : l00Src) : runF T (G N) live [] Try.f201 code (sp N) o0 (a0, ()) = m0 N a0 := by kernel_rfl
theorem G_ok (N : Nat) : GamOK Try.prog (G N) := gam_ok (l := []) (trivial)
theorem snd (N : Nat) : Sound Try.prog E 201 (sp N) :=
  Mir.sound T_OK (G_ok N) mixed Try.func201 (c := code) (by kernel_rfl) (by kernel_rfl) (sp N) (Nat.le_of_ble_eq_true (by kernel_rfl)) live [] (by
    rintro ⟨a0, _⟩ r h
    exact ⟨N, 2, ((run N _ a0).trans rfl).trans h⟩)
end spec_l00Src_byte_
namespace spec_l00Src_next_
noncomputable def code : Code := Try.f141.body.getD .skip
abbrev live : Live := []
noncomputable def G (N : Nat) : Ctx E := gam [(201, [], spec_l00Src_byte_.sp N)]
noncomputable def m0 (N : Nat) (a0 : l00Src) (a1 : Int) : Option R :=
  bif (decide (a1 ≤ (1:Int))) then
    some ((0:Int), a0)
  else
  bif (decide (a1 ≤ (256:Int))) then
    ob (spec_l00Src_byte_.m N a0) fun y1 =>
    bif (!decide (a1 = 0)) then
    some ((Int.tmod y1.1 a1), y1.2)
    else none
  else
  ob (spec_l00Src_byte_.m N a0) fun y2 =>
  ob (spec_l00Src_byte_.m N y2.2) fun y3 =>
  ob (spec_l00Src_byte_.m N y3.2) fun y4 =>
  bif (!decide (a1 = 0)) then
  some ((Int.tmod (w64 ((w64 ((w64 (y2.1 * (65536:Int))) + (w64 (y3.1 * (256:Int))))) + y4.1)) a1), y4.2)
  else none
theorem run (N : Nat) (o0 : Orc E R) (a0 : l00Src) (a1 : Int) : runF T (G N) live [] Try.f141 code (sp N) o0 (a0, a1, ()) = m0 N a0 a1 := by kernel_rfl
theorem G_ok (N : Nat) : GamOK Try.prog (G N) := gam_ok (l := [(201, [], spec_l00Src_byte_.sp N)]) (⟨spec_l00Src_byte_.snd N, trivial⟩)
theorem snd (N : Nat) : Sound Try.prog E 141 (sp N) :=
  Mir.sound T_OK (G_ok N) mixed Try.func141 (c := code) (by kernel_rfl) (by kernel_rfl) (sp N) (Nat.le_of_ble_eq_true (by kernel_rfl)) live [] (by
    rintro ⟨a0, a1, _⟩ r h
    exact ⟨N, 2, ((run N _ a0 a1).trans rfl).trans h⟩)
end spec_l00Src_next_
namespace spec_l00Src_pick_
noncomputable def code : Code := Try.f144.body.getD .skip
abbrev live : Live := []
noncomputable def G (N : Nat) : Ctx E := gam [(141, [], spec_l00Src_next_.sp N)]
noncomputable def m0 (N : Nat) (a0 : l00Src) (a1 : List ByteArray) : Option R :=
  bif ((a1.length : Int) == (0:Int)) then
    some (ByteArray.empty, a0)
  else
  ob (spec_l00Src_next_.m N a0 (a1.length : Int)) fun y1 =>
  bif (decide (0 ≤ y1.1)) then
  bif (decide (y1.1 < (a1.length : Int))) then
  some ((a1.getD (Int.toNat y1.1) ByteArray.empty), y1.2)
  else none
  else none
theorem run (N : Nat) (o0 : Orc E R) (a0 : l00Src) (a1 : List ByteArray) : runF T (G N) live [] Try.f144 code (sp N) o0 (a0, a1, ()) = m0 N a0 a1 := by kernel_rfl
theorem G_ok (N : Nat) : GamOK Try.prog (G N) := gam_ok (l := [(141, [], spec_l00Src_next_.sp N)]) (⟨spec_l00Src_next_.snd N, trivial⟩)
theorem snd (N : Nat) : Sound Try.prog E 144 (sp N) :=
  Mir.sound T_OK (G_ok N) mixed Try.func144 (c := code) (by kernel_rfl) (by kernel_rfl) (sp N) (Nat.le_of_ble_eq_true (by kernel_rfl)) live [] (by
    rintro ⟨a0, a1, _⟩ r h
    exact ⟨N, 2, ((run N _ a0 a1).trans rfl).trans h⟩)
end spec_l00Src_pick_
namespace spec_l00Src_fileName
noncomputable def code : Code := Try.f143.body.getD .skip
abbrev live : Live := []
noncomputable def G (N : Nat) : Ctx E := gam [(144, [], spec_l00Src_pick_.sp N)]
noncomputable def m0 (N : Nat) (a0 : l00Src) : Option R :=
  ob (spec_l00Src_pick_.m N a0 ([(⟨#[108, 111, 103]⟩ : ByteArray), (⟨#[115, 116, 97, 116, 101]⟩ : ByteArray), (⟨#[116, 101, 109, 112]⟩ : ByteArray)])) fun y1 =>
  some (y1.1, y1.2)
theorem run (N : Nat) (o0 : Orc E R) (a0 : l00Src) : runF T (G N) live [] Try.f143 code (sp N) o0 (a0, ()) = m0 N a0 := by kernel_rfl
theorem G_ok (N : Nat) : GamOK Try.prog (G N) := gam_ok (l := [(144, [], spec_l00Src_pick_.sp N)]) (⟨spec_l00Src_pick_.snd N, trivial⟩)
theorem snd (N : Nat) : Sound Try.prog E 143 (sp N) :=
  Mir.sound T_OK (G_ok N) mixed Try.func143 (c := code) (by kernel_rfl) (by kernel_rfl) (sp N) (Nat.le_of_ble_eq_true (by kernel_rfl)) live [] (by
    rintro ⟨a0, _⟩ r h
    exact ⟨N, 2, ((run N _ a0).trans rfl).trans h⟩)
end spec_l00Src_fileName
namespace spec_l00Src_fileActs
noncomputable def code : Code := Try.f73.body.getD .skip
abbrev live : Live := [(3, [0, 3, 4])]
noncomputable def G (N : Nat) : Ctx E := gam [(142, [], spec_l00Src_size_.sp N), (141, [], spec_l00Src_next_.sp N), (143, [], spec_l00Src_fileName.sp N), (144, [], spec_l00Src_pick_.sp N)]
noncomputable def loop3 : Code := codeAt code [1, 1, 0, 1, 0]
noncomputable def body3 : Code := codeAt loop3 [0]
noncomputable def K3 (N : Nat) (o0 : Orc E R) : KT E R := kAt T (G N) live [] o0 code [1, 1, 0, 1, 0] (kfin T Try.f73 (sp N))
noncomputable def St3 (a0 : l00Src) : (Int × (List Int) × Int × Int × (List FileAct)) → St E
  | (v0, v1, v2, v3, v4) => { ρ := [(0, .c (.at (.ptr 0 0))), (3, .c (.at (.own 1))), (4, .c (.at (.int .i64 v0)))], H := [(0, .box 179 [.ro 5 (.int .u8) v1, .int .i64 v2, .int .i64 v3]), (1, .row 40 (.st 40) v4 false)], nx := 2, n := 70, pin := [0] }
noncomputable def m0 (N : Nat) (a0 : l00Src) (lp3 : Int × (List Int) × Int × Int × (List FileAct) → Option R) : Option R :=
  ob (spec_l00Src_size_.m N a0 (20:Int)) fun y1 =>
  ob (spec_l00Src_next_.m N a0 (w64 (y1 + (3:Int)))) fun y2 =>
  lp3 (y2.1, y2.2.code, y2.2.«at», y2.2.seed, ([] : List FileAct))
theorem run (N : Nat) (o0 : Orc E R) (a0 : l00Src) : runF T (G N) live [] Try.f73 code (sp N) o0 (a0, ()) = m0 N a0 (fun a => o0 loop3 (K3 N o0) (St3 a0 a)) := by kernel_rfl
theorem body3_0 (N : Nat) (o0 : Orc E R) (o1 : Orc E R) (q1 : St E → Option R) (a0 : l00Src) (v0 : Int) (v1 : List Int) (v2 : Int) (v3 : Int) (v4 : List FileAct) : runA T (G N) live [] o1 body3 (St3 a0 (v0, v1, v2, v3, v4)) (kloop [0, 3, 4] q1 (K3 N o0)) = step3 N a0 (fun a => q1 (St3 a0 a)) (v0, v1, v2, v3, v4) := by kernel_rfl
theorem lp3_eq (N : Nat) (a0 : l00Src) (a : Int × (List Int) × Int × Int × (List FileAct)) : (orc T (G N) live [] N 2) loop3 (K3 N (orc T (G N) live [] N 2)) (St3 a0 a) = lp3 N a0 a :=
  (orc_loop (b := body3) (live := [0, 3, 4]) (by kernel_rfl)).trans (iter_eq (St3 a0) _ _ (fun q1 a => by
    have hc := congrFun (congrFun (rfl : (step3 N a0) = (step3 N a0)) (fun a => q1 (St3 a0 a))) a
    obtain ⟨u0, u1, u2, u3, u4⟩ := a
    exact (body3_0 N (orc T (G N) live [] N 2) (orc T (G N) live [] N 1) q1 a0 u0 u1 u2 u3 u4).trans hc) N a)
theorem G_ok (N : Nat) : GamOK Try.prog (G N) := gam_ok (l := [(142, [], spec_l00Src_size_.sp N), (141, [], spec_l00Src_next_.sp N), (143, [], spec_l00Src_fileName.sp N), (144, [], spec_l00Src_pick_.sp N)]) (⟨spec_l00Src_size_.snd N, spec_l00Src_next_.snd N, spec_l00Src_fileName.snd N, spec_l00Src_pick_.snd N, trivial⟩)
theorem snd (N : Nat) : Sound Try.prog E 73 (sp N) :=
  Mir.sound T_OK (G_ok N) mixed Try.func73 (c := code) (by kernel_rfl) (by kernel_rfl) (sp N) (Nat.le_of_ble_eq_true (by kernel_rfl)) live [] (by
    rintro ⟨a0, _⟩ r h
    exact ⟨N, 2, ((run N _ a0).trans (congrArg (m0 N a0) (funext fun a => lp3_eq N a0 a))).trans h⟩)
end spec_l00Src_fileActs
namespace spec_FileActsOf
noncomputable def code : Code := Try.f14.body.getD .skip
abbrev live : Live := []
noncomputable def G (N : Nat) : Ctx E := gam [(72, [], spec_l00Source.sp N), (73, [], spec_l00Src_fileActs.sp N)]
noncomputable def m0 (N : Nat) (a0 : List Int) : Option R :=
  ob (spec_l00Source.m N a0) fun y1 =>
  ob (spec_l00Src_fileActs.m N y1) fun y2 =>
  some y2.1
theorem run (N : Nat) (o0 : Orc E R) (a0 : List Int) : runF T (G N) live [] Try.f14 code (sp N) o0 (a0, ()) = m0 N a0 := by kernel_rfl
theorem G_ok (N : Nat) : GamOK Try.prog (G N) := gam_ok (l := [(72, [], spec_l00Source.sp N), (73, [], spec_l00Src_fileActs.sp N)]) (⟨spec_l00Source.snd N, spec_l00Src_fileActs.snd N, trivial⟩)
theorem snd (N : Nat) : Sound Try.prog E 14 (sp N) :=
  Mir.sound T_OK (G_ok N) mixed Try.func14 (c := code) (by kernel_rfl) (by kernel_rfl) (sp N) (Nat.le_of_ble_eq_true (by kernel_rfl)) live [] (by
    rintro ⟨a0, _⟩ r h
    exact ⟨N, 2, ((run N _ a0).trans rfl).trans h⟩)
end spec_FileActsOf
namespace impl_isList_impl_FileAct
noncomputable def code : Code := Try.f74.body.getD .skip
abbrev live : Live := []
noncomputable def G (N : Nat) : Ctx E := gam []
noncomputable def m0 (N : Nat) (a0 : List FileAct) : Option R :=
  some (decide ((a0.length : Int) ≤ (4096:Int)))
theorem run (N : Nat) (o0 : Orc E R) (a0 : List FileAct) : runF T (G N) live [] Try.f74 code (sp N) o0 (a0, ()) = m0 N a0 := by kernel_rfl
theorem G_ok (N : Nat) : GamOK Try.prog (G N) := gam_ok (l := []) (trivial)
theorem snd (N : Nat) : Sound Try.prog E 74 (sp N) :=
  Mir.sound T_OK (G_ok N) mixed Try.func74 (c := code) (by kernel_rfl) (by kernel_rfl) (sp N) (Nat.le_of_ble_eq_true (by kernel_rfl)) live [] (by
    rintro ⟨a0, _⟩ r h
    exact ⟨N, 2, ((run N _ a0).trans rfl).trans h⟩)
end impl_isList_impl_FileAct
namespace impl_within
noncomputable def code : Code := Try.f81.body.getD .skip
abbrev live : Live := []
noncomputable def G (N : Nat) : Ctx E := gam []
noncomputable def m0 (N : Nat) (a0 : Int) (a1 : Int) (a2 : Int) : Option R :=
  bif (decide (a0 ≥ a1)) then
    some (bif true then (decide (a0 ≤ a2)) else false)
  else
  some false
theorem run (N : Nat) (o0 : Orc E R) (a0 : Int) (a1 : Int) (a2 : Int) : runF T (G N) live [] Try.f81 code (sp N) o0 (a0, a1, a2, ()) = m0 N a0 a1 a2 := by kernel_rfl
theorem G_ok (N : Nat) : GamOK Try.prog (G N) := gam_ok (l := []) (trivial)
theorem snd (N : Nat) : Sound Try.prog E 81 (sp N) :=
  Mir.sound T_OK (G_ok N) mixed Try.func81 (c := code) (by kernel_rfl) (by kernel_rfl) (sp N) (Nat.le_of_ble_eq_true (by kernel_rfl)) live [] (by
    rintro ⟨a0, a1, a2, _⟩ r h
    exact ⟨N, 2, ((run N _ a0 a1 a2).trans rfl).trans h⟩)
end impl_within
namespace impl_NewDisk
noncomputable def code : Code := Try.f75.body.getD .skip
abbrev live : Live := []
noncomputable def G (N : Nat) : Ctx E := gam [(81, [], impl_within.sp N)]
noncomputable def m0 (N : Nat) (a0 : Int) : Option R :=
  ob (impl_within.m N a0 (0:Int) (3000:Int)) fun y1 =>
  bif (!y1) then
    some ((Disk.mk (0:Int) ([] : List File)), (4:Int))
  else
  some ((Disk.mk a0 ([] : List File)), (0:Int))
theorem run (N : Nat) (o0 : Orc E R) (a0 : Int) : runF T (G N) live [] Try.f75 code (sp N) o0 (a0, ()) = m0 N a0 := by kernel_rfl
theorem G_ok (N : Nat) : GamOK Try.prog (G N) := gam_ok (l := [(81, [], impl_within.sp N)]) (⟨impl_within.snd N, trivial⟩)
theorem snd (N : Nat) : Sound Try.prog E 75 (sp N) :=
  Mir.sound T_OK (G_ok N) mixed Try.func75 (c := code) (by kernel_rfl) (by kernel_rfl) (sp N) (Nat.le_of_ble_eq_true (by kernel_rfl)) live [] (by
    rintro ⟨a0, _⟩ r h
    exact ⟨N, 2, ((run N _ a0).trans rfl).trans h⟩)
end impl_NewDisk
namespace slices_Clone_impl_File_impl_File
noncomputable def code : Code := Try.f202.body.getD .skip
abbrev live : Live := []
noncomputable def G (N : Nat) : Ctx E := gam []
noncomputable def m0 (N : Nat) (a0 : List File) : Option R :=
  amb (a0.isEmpty) true
    (some ([] : List File))
    (bif (room (([] : List File).length + a0.length) 40) then
    some (([] : List File) ++ a0)
    else none)
theorem run (N : Nat) (o0 : Orc E R) (a0 : List File) : runF T (G N) live [] Try.f202 code (sp N) o0 (a0, ()) = m0 N a0 := by kernel_rfl
theorem G_ok (N : Nat) : GamOK Try.prog (G N) := gam_ok (l := []) (trivial)
theorem snd (N : Nat) : Sound Try.prog E 202 (sp N) :=
  Mir.sound T_OK (G_ok N) mixed Try.func202 (c := code) (by kernel_rfl) (by kernel_rfl) (sp N) (Nat.le_of_ble_eq_true (by kernel_rfl)) live [] (by
    rintro ⟨a0, _⟩ r h
    exact ⟨N, 2, ((run N _ a0).trans rfl).trans h⟩)
end slices_Clone_impl_File_impl_File
namespace impl_copyDisk
noncomputable def code : Code := Try.f145.body.getD .skip
abbrev live : Live := []
noncomputable def G (N : Nat) : Ctx E := gam [(202, [], slices_Clone_impl_File_impl_File.sp N)]
noncomputable def m0 (N : Nat) (a0 : Disk) : Option R :=
  ob (slices_Clone_impl_File_impl_File.m N a0.Files) fun y1 =>
  some (Disk.mk a0.Room y1)
theorem run (N : Nat) (o0 : Orc E R) (a0 : Disk) : runF T (G N) live [] Try.f145 code (sp N) o0 (a0, ()) = m0 N a0 := by kernel_rfl
theorem G_ok (N : Nat) : GamOK Try.prog (G N) := gam_ok (l := [(202, [], slices_Clone_impl_File_impl_File.sp N)]) (⟨slices_Clone_impl_File_impl_File.snd N, trivial⟩)
theorem snd (N : Nat) : Sound Try.prog E 145 (sp N) :=
  Mir.sound T_OK (G_ok N) mixed Try.func145 (c := code) (by kernel_rfl) (by kernel_rfl) (sp N) (Nat.le_of_ble_eq_true (by kernel_rfl)) live [] (by
    rintro ⟨a0, _⟩ r h
    exact ⟨N, 2, ((run N _ a0).trans rfl).trans h⟩)
end impl_copyDisk
namespace strings_Compare
theorem str_of {W : World} {F : Nat → Prop} {s : ByteArray} {v : Value} (h : RoV E W F .str s v) : v = .string s := by
  obtain ⟨d, h⟩ := h; cases d <;> exact h
theorem snd (N : Nat) : Sound Try.prog E 157 (sp N) := by
  refine ⟨fun args W => run_callFunc_go Try.func157 (c := Try.f157.body.getD .skip) (by kernel_rfl) (by kernel_rfl) args W, ?_⟩
  rintro W F ⟨a0, a1, _⟩ r args fp hfn ⟨v, vs, f1, f2, rfl, rfl, ⟨h0, rfl⟩, ⟨w, ws, g1, g2, rfl, rfl, ⟨h1, rfl⟩, ⟨rfl, rfl⟩⟩⟩ _ _ hF
  obtain rfl := str_of h0
  obtain rfl := str_of h1
  cases hfn
  have hcall := Go.Proofs.Any.strings_Compare Try.cmpLays a0 a1 W
  refine (show Calls Try.prog 157 #[.string a0, .string a1] W _ from hcall).mono ?_
  rintro e W' ⟨rfl, rfl⟩
  exact ⟨_, rfl, ⟨F, [.int .i64 (Go.Lib.compareBytes a0.data.toList a1.data.toList)], [], [], rfl, fun b h => h, fun b h => ⟨.inl h, hF b h⟩, ⟨_, [], [], [], rfl, rfl, ⟨rfl, rfl⟩, ⟨rfl, rfl⟩⟩, ⟨_, _, [], [], rfl, rfl, rfl, ⟨_, _, [], [], rfl, rfl, rfl, ⟨rfl, rfl⟩⟩⟩, List.nodup_nil, fun b h => by cases h⟩, rfl, rfl, rfl, Nat.le_refl _, fun b h _ => rfl⟩
end strings_Compare
namespace impl_Disk_fileAt_1
noncomputable def code : Code := Try.f156.body.getD .skip
abbrev live : Live := []
noncomputable def G (N : Nat) : Ctx E := gam [(157, [], strings_Compare.sp N)]
noncomputable def m0 (N : Nat) (a0 : File) (a1 : ByteArray) : Option R :=
  ob (strings_Compare.m N a0.Name a1) fun y1 =>
  some y1
theorem run (N : Nat) (o0 : Orc E R) (a0 : File) (a1 : ByteArray) : runF T (G N) live [] Try.f156 code (sp N) o0 (a0, a1, ()) = m0 N a0 a1 := by kernel_rfl
theorem G_ok (N : Nat) : GamOK Try.prog (G N) := gam_ok (l := [(157, [], strings_Compare.sp N)]) (⟨strings_Compare.snd N, trivial⟩)
theorem snd (N : Nat) : Sound Try.prog E 156 (sp N) :=
  Mir.sound T_OK (G_ok N) mixed Try.func156 (c := code) (by kernel_rfl) (by kernel_rfl) (sp N) (Nat.le_of_ble_eq_true (by kernel_rfl)) live [] (by
    rintro ⟨a0, a1, _⟩ r h
    exact ⟨N, 2, ((run N _ a0 a1).trans rfl).trans h⟩)
end impl_Disk_fileAt_1
namespace slices_BinarySearchFunc_impl_File_impl_File_string__impl_Disk_fileAt_1
noncomputable def code : Code := Try.f155.body.getD .skip
abbrev live : Live := [(3, [0, 1, 2, 8, 9, 10])]
noncomputable def G (N : Nat) : Ctx E := gam [(156, [], impl_Disk_fileAt_1.sp N)]
noncomputable def loop3 : Code := codeAt code [1, 1, 1, 0, 0]
noncomputable def body3 : Code := codeAt loop3 [0]
noncomputable def K3 (N : Nat) (o0 : Orc E R) : KT E R := kAt T (G N) live [] o0 code [1, 1, 1, 0, 0] (kfin T Try.f155 (sp N))
noncomputable def St3 (a0 : List File) (a1 : ByteArray) : (Int × Int × Int) → St E
  | (v2, v3, v4) => { ρ := [(0, .c (.at (.ro 42 (.st 42) a0))), (1, .c (.at (.str a1))), (2, .clo 156 []), (8, .c (.at (.int .i64 v2))), (9, .c (.at (.int .i64 v3))), (10, .c (.at (.int .i64 v4)))], H := [], nx := 0, n := 49, pin := [] }
noncomputable def m0 (N : Nat) (a0 : List File) (a1 : ByteArray) (lp3 : Int × Int × Int → Option R) : Option R :=
  lp3 ((a0.length : Int), (0:Int), (a0.length : Int))
theorem run (N : Nat) (o0 : Orc E R) (a0 : List File) (a1 : ByteArray) : runF T (G N) live [] Try.f155 code (sp N) o0 (a0, a1, (), ()) = m0 N a0 a1 (fun a => o0 loop3 (K3 N o0) (St3 a0 a1 a)) := by kernel_rfl
theorem body3_0 (N : Nat) (o0 : Orc E R) (o1 : Orc E R) (q1 : St E → Option R) (a0 : List File) (a1 : ByteArray) (v2 : Int) (v3 : Int) (v4 : Int) : runA T (G N) live [] o1 body3 (St3 a0 a1 (v2, v3, v4)) (kloop [0, 1, 2, 8, 9, 10] q1 (K3 N o0)) = step3 N a0 a1 (fun a => q1 (St3 a0 a1 a)) (v2, v3, v4) := by kernel_rfl
theorem lp3_eq (N : Nat) (a0 : List File) (a1 : ByteArray) (a : Int × Int × Int) : (orc T (G N) live [] N 2) loop3 (K3 N (orc T (G N) live [] N 2)) (St3 a0 a1 a) = lp3 N a0 a1 a :=
  (orc_loop (b := body3) (live := [0, 1, 2, 8, 9, 10]) (by kernel_rfl)).trans (iter_eq (St3 a0 a1) _ _ (fun q1 a => by
    have hc := congrFun (congrFun (rfl : (step3 N a0 a1) = (step3 N a0 a1)) (fun a => q1 (St3 a0 a1 a))) a
    obtain ⟨u0, u1, u2⟩ := a
    exact (body3_0 N (orc T (G N) live [] N 2) (orc T (G N) live [] N 1) q1 a0 a1 u0 u1 u2).trans hc) N a)
theorem G_ok (N : Nat) : GamOK Try.prog (G N) := gam_ok (l := [(156, [], impl_Disk_fileAt_1.sp N)]) (⟨impl_Disk_fileAt_1.snd N, trivial⟩)
theorem snd (N : Nat) : Sound Try.prog E 155 (sp N) :=
  Mir.sound T_OK (G_ok N) mixed Try.func155 (c := code) (by kernel_rfl) (by kernel_rfl) (sp N) (Nat.le_of_ble_eq_true (by kernel_rfl)) live [] (by
    rintro ⟨a0, a1, _, _⟩ r h
    exact ⟨N, 2, ((run N _ a0 a1).trans (congrArg (m0 N a0 a1) (funext fun a => lp3_eq N a0 a1 a))).trans h⟩)
end slices_BinarySearchFunc_impl_File_impl_File_string__impl_Disk_fileAt_1
namespace impl_Disk_fileAt
noncomputable def code : Code := Try.f84.body.getD .skip
abbrev live : Live := []
noncomputable def G (N : Nat) : Ctx E := gam [(155, [156], slices_BinarySearchFunc_impl_File_impl_File_string__impl_Disk_fileAt_1.sp N)]
noncomputable def m0 (N : Nat) (a0 : Disk) (a1 : ByteArray) : Option R :=
  ob (slices_BinarySearchFunc_impl_File_impl_File_string__impl_Disk_fileAt_1.m N a0.Files a1) fun y1 =>
  some (y1.1, y1.2)
theorem run (N : Nat) (o0 : Orc E R) (a0 : Disk) (a1 : ByteArray) : runF T (G N) live [] Try.f84 code (sp N) o0 (a0, a1, ()) = m0 N a0 a1 := by kernel_rfl
theorem G_ok (N : Nat) : GamOK Try.prog (G N) := gam_ok (l := [(155, [156], slices_BinarySearchFunc_impl_File_impl_File_string__impl_Disk_fileAt_1.sp N)]) (⟨slices_BinarySearchFunc_impl_File_impl_File_string__impl_Disk_fileAt_1.snd N, trivial⟩)
theorem snd (N : Nat) : Sound Try.prog E 84 (sp N) :=
  Mir.sound T_OK (G_ok N) mixed Try.func84 (c := code) (by kernel_rfl) (by kernel_rfl) (sp N) (Nat.le_of_ble_eq_true (by kernel_rfl)) live [] (by
    rintro ⟨a0, a1, _⟩ r h
    exact ⟨N, 2, ((run N _ a0 a1).trans rfl).trans h⟩)
end impl_Disk_fileAt
namespace impl_NameOK
noncomputable def code : Code := Try.f82.body.getD .skip
abbrev live : Live := [(2, [0, 7, 8])]
noncomputable def G (N : Nat) : Ctx E := gam [(81, [], impl_within.sp N)]
noncomputable def loop2 : Code := codeAt code [1, 0, 1, 0]
noncomputable def body2 : Code := codeAt loop2 [0]
noncomputable def K2 (N : Nat) (o0 : Orc E R) : KT E R := kAt T (G N) live [] o0 code [1, 0, 1, 0] (kfin T Try.f82 (sp N))
noncomputable def St2 (a0 : ByteArray) : (Int × Int) → St E
  | (v1, v2) => { ρ := [(0, .c (.at (.str a0))), (7, .c (.at (.int .i64 v1))), (8, .c (.at (.int .i64 v2)))], H := [], nx := 0, n := 50, pin := [] }
noncomputable def m0 (N : Nat) (a0 : ByteArray) (lp2 : Int × Int → Option R) : Option R :=
  lp2 ((a0.size : Int), (0:Int))
theorem run (N : Nat) (o0 : Orc E R) (a0 : ByteArray) : runF T (G N) live [] Try.f82 code (sp N) o0 (a0, ()) = m0 N a0 (fun a => o0 loop2 (K2 N o0) (St2 a0 a)) := by kernel_rfl
theorem body2_0 (N : Nat) (o0 : Orc E R) (o1 : Orc E R) (q1 : St E → Option R) (a0 : ByteArray) (v1 : Int) (v2 : Int) : runA T (G N) live [] o1 body2 (St2 a0 (v1, v2)) (kloop [0, 7, 8] q1 (K2 N o0)) = step2 N a0 (fun a => q1 (St2 a0 a)) (v1, v2) := by kernel_rfl
theorem lp2_eq (N : Nat) (a0 : ByteArray) (a : Int × Int) : (orc T (G N) live [] N 2) loop2 (K2 N (orc T (G N) live [] N 2)) (St2 a0 a) = lp2 N a0 a :=
  (orc_loop (b := body2) (live := [0, 7, 8]) (by kernel_rfl)).trans (iter_eq (St2 a0) _ _ (fun q1 a => by
    have hc := congrFun (congrFun (rfl : (step2 N a0) = (step2 N a0)) (fun a => q1 (St2 a0 a))) a
    obtain ⟨u0, u1⟩ := a
    exact (body2_0 N (orc T (G N) live [] N 2) (orc T (G N) live [] N 1) q1 a0 u0 u1).trans hc) N a)
theorem G_ok (N : Nat) : GamOK Try.prog (G N) := gam_ok (l := [(81, [], impl_within.sp N)]) (⟨impl_within.snd N, trivial⟩)
theorem snd (N : Nat) : Sound Try.prog E 82 (sp N) :=
  Mir.sound T_OK (G_ok N) mixed Try.func82 (c := code) (by kernel_rfl) (by kernel_rfl) (sp N) (Nat.le_of_ble_eq_true (by kernel_rfl)) live [] (by
    rintro ⟨a0, _⟩ r h
    exact ⟨N, 2, ((run N _ a0).trans (congrArg (m0 N a0) (funext fun a => lp2_eq N a0 a))).trans h⟩)
end impl_NameOK
namespace impl_Disk_used
noncomputable def code : Code := Try.f80.body.getD .skip
abbrev live : Live := [(3, [3, 7, 8, 9])]
noncomputable def G (N : Nat) : Ctx E := gam []
noncomputable def loop3 : Code := codeAt code [1, 1, 0, 1, 0]
noncomputable def body3 : Code := codeAt loop3 [0]
noncomputable def K3 (N : Nat) (o0 : Orc E R) : KT E R := kAt T (G N) live [] o0 code [1, 1, 0, 1, 0] (kfin T Try.f80 (sp N))
noncomputable def St3 (a0 : Disk) : (Int × Int × Int) → St E
  | (v0, v2, v3) => { ρ := [(3, .c (.at (.int .i64 v0))), (7, .c (.at (.ro 42 (.st 42) a0.Files))), (8, .c (.at (.int .i64 v2))), (9, .c (.at (.int .i64 v3)))], H := [], nx := 0, n := 20, pin := [] }
noncomputable def m0 (N : Nat) (a0 : Disk) (lp3 : Int × Int × Int → Option R) : Option R :=
  lp3 ((0:Int), (a0.Files.length : Int), (0:Int))
theorem run (N : Nat) (o0 : Orc E R) (a0 : Disk) : runF T (G N) live [] Try.f80 code (sp N) o0 (a0, ()) = m0 N a0 (fun a => o0 loop3 (K3 N o0) (St3 a0 a)) := by kernel_rfl
theorem body3_0 (N : Nat) (o0 : Orc E R) (o1 : Orc E R) (q1 : St E → Option R) (a0 : Disk) (v0 : Int) (v2 : Int) (v3 : Int) : runA T (G N) live [] o1 body3 (St3 a0 (v0, v2, v3)) (kloop [3, 7, 8, 9] q1 (K3 N o0)) = step3 N a0 (fun a => q1 (St3 a0 a)) (v0, v2, v3) := by kernel_rfl
theorem lp3_eq (N : Nat) (a0 : Disk) (a : Int × Int × Int) : (orc T (G N) live [] N 2) loop3 (K3 N (orc T (G N) live [] N 2)) (St3 a0 a) = lp3 N a0 a :=
  (orc_loop (b := body3) (live := [3, 7, 8, 9]) (by kernel_rfl)).trans (iter_eq (St3 a0) _ _ (fun q1 a => by
    have hc := congrFun (congrFun (rfl : (step3 N a0) = (step3 N a0)) (fun a => q1 (St3 a0 a))) a
    obtain ⟨u0, u1, u2⟩ := a
    exact (body3_0 N (orc T (G N) live [] N 2) (orc T (G N) live [] N 1) q1 a0 u0 u1 u2).trans hc) N a)
theorem G_ok (N : Nat) : GamOK Try.prog (G N) := gam_ok (l := []) (trivial)
theorem snd (N : Nat) : Sound Try.prog E 80 (sp N) :=
  Mir.sound T_OK (G_ok N) mixed Try.func80 (c := code) (by kernel_rfl) (by kernel_rfl) (sp N) (Nat.le_of_ble_eq_true (by kernel_rfl)) live [] (by
    rintro ⟨a0, _⟩ r h
    exact ⟨N, 2, ((run N _ a0).trans (congrArg (m0 N a0) (funext fun a => lp3_eq N a0 a))).trans h⟩)
end impl_Disk_used
namespace slices_Insert_impl_File
theorem snd (N : Nat) : Sound Try.prog E 238 (sp N) :=
  insert_sound (E := E) (ty := (.st 42)) rfl (fun args W => run_callFunc_go Try.func238 (c := Try.f238.body.getD .skip) (by kernel_rfl) (by kernel_rfl) args W) Try.underlying25 (i := Try.t42) (by kernel_rfl) (z := Try.t42.zero.getD undef) (by kernel_rfl) (by kernel_rfl) (by kernel_rfl) (Nat.le_of_ble_eq_true (by kernel_rfl)) Go.Proofs.InsW238.ov Go.Proofs.InsW238.at_end Go.Proofs.InsW238.grow (by kernel_rfl) Go.Proofs.InsW238.shift
end slices_Insert_impl_File
namespace impl_Disk_append_
noncomputable def code : Code := Try.f203.body.getD .skip
abbrev live : Live := []
noncomputable def G (N : Nat) : Ctx E := gam [(84, [], impl_Disk_fileAt.sp N), (82, [], impl_NameOK.sp N), (80, [], impl_Disk_used.sp N), (238, [], slices_Insert_impl_File.sp N)]
noncomputable def m0 (N : Nat) (a0 : Disk) (a1 : ByteArray) (a2 : ByteArray) : Option R :=
  ob (impl_Disk_fileAt.m N a0 a1) fun y1 =>
  ob (impl_NameOK.m N a1) fun y2 =>
  bif (!y2) then
    some ((1:Int), a0)
  else
  bif (!y1.2) then
    bif (bif true then ((a0.Files.length : Int) == (8:Int)) else false) then
      some ((7:Int), a0)
    else
    ob (impl_Disk_used.m N a0) fun y3 =>
    bif (bif false then true else (decide ((a2.size : Int) > (w64 (a0.Room - y3))))) then
      some ((7:Int), a0)
    else
    bif (!y1.2) then
      ob (slices_Insert_impl_File.m N a0.Files y1.1 ([(File.mk a1 ByteArray.empty (0:Int))])) fun y4 =>
      bif (decide (0 ≤ y1.1)) then
      bif (decide (y1.1 < (y4.length : Int))) then
      bif (decide (((y4.getD (Int.toNat y1.1) File.dz).Data).size + a2.size ≤ 9223372036854775807)) then
      bif (decide (0 ≤ y1.1)) then
      bif (decide (y1.1 < (y4.length : Int))) then
      (let w5 : List File := (y4.set (Int.toNat y1.1) (File.mk ((y4.getD (Int.toNat y1.1) File.dz).Name) (((y4.getD (Int.toNat y1.1) File.dz).Data) ++ a2) ((y4.getD (Int.toNat y1.1) File.dz).Sure)))
      some ((0:Int), (Disk.mk a0.Room w5)))
      else none
      else none
      else none
      else none
      else none
    else
    bif (decide (0 ≤ y1.1)) then
    bif (decide (y1.1 < (a0.Files.length : Int))) then
    bif (decide (((a0.Files.getD (Int.toNat y1.1) File.dz).Data).size + a2.size ≤ 9223372036854775807)) then
    bif (decide (0 ≤ y1.1)) then
    bif (decide (y1.1 < (a0.Files.length : Int))) then
    (let w6 : List File := (a0.Files.set (Int.toNat y1.1) (File.mk ((a0.Files.getD (Int.toNat y1.1) File.dz).Name) (((a0.Files.getD (Int.toNat y1.1) File.dz).Data) ++ a2) ((a0.Files.getD (Int.toNat y1.1) File.dz).Sure)))
    some ((0:Int), (Disk.mk a0.Room w6)))
    else none
    else none
    else none
    else none
    else none
  else
  ob (impl_Disk_used.m N a0) fun y7 =>
  bif (bif false then true else (decide ((a2.size : Int) > (w64 (a0.Room - y7))))) then
    some ((7:Int), a0)
  else
  bif (!y1.2) then
    ob (slices_Insert_impl_File.m N a0.Files y1.1 ([(File.mk a1 ByteArray.empty (0:Int))])) fun y8 =>
    bif (decide (0 ≤ y1.1)) then
    bif (decide (y1.1 < (y8.length : Int))) then
    bif (decide (((y8.getD (Int.toNat y1.1) File.dz).Data).size + a2.size ≤ 9223372036854775807)) then
    bif (decide (0 ≤ y1.1)) then
    bif (decide (y1.1 < (y8.length : Int))) then
    (let w9 : List File := (y8.set (Int.toNat y1.1) (File.mk ((y8.getD (Int.toNat y1.1) File.dz).Name) (((y8.getD (Int.toNat y1.1) File.dz).Data) ++ a2) ((y8.getD (Int.toNat y1.1) File.dz).Sure)))
    some ((0:Int), (Disk.mk a0.Room w9)))
    else none
    else none
    else none
    else none
    else none
  else
  bif (decide (0 ≤ y1.1)) then
  bif (decide (y1.1 < (a0.Files.length : Int))) then
  bif (decide (((a0.Files.getD (Int.toNat y1.1) File.dz).Data).size + a2.size ≤ 9223372036854775807)) then
  bif (decide (0 ≤ y1.1)) then
  bif (decide (y1.1 < (a0.Files.length : Int))) then
  (let w10 : List File := (a0.Files.set (Int.toNat y1.1) (File.mk ((a0.Files.getD (Int.toNat y1.1) File.dz).Name) (((a0.Files.getD (Int.toNat y1.1) File.dz).Data) ++ a2) ((a0.Files.getD (Int.toNat y1.1) File.dz).Sure)))
  some ((0:Int), (Disk.mk a0.Room w10)))
  else none
  else none
  else none
  else none
  else none
theorem run (N : Nat) (o0 : Orc E R) (a0 : Disk) (a1 : ByteArray) (a2 : ByteArray) : runF T (G N) live [] Try.f203 code (sp N) o0 (a0, a1, a2, ()) = m0 N a0 a1 a2 := by kernel_rfl
theorem G_ok (N : Nat) : GamOK Try.prog (G N) := gam_ok (l := [(84, [], impl_Disk_fileAt.sp N), (82, [], impl_NameOK.sp N), (80, [], impl_Disk_used.sp N), (238, [], slices_Insert_impl_File.sp N)]) (⟨impl_Disk_fileAt.snd N, impl_NameOK.snd N, impl_Disk_used.snd N, slices_Insert_impl_File.snd N, trivial⟩)
theorem snd (N : Nat) : Sound Try.prog E 203 (sp N) :=
  Mir.sound T_OK (G_ok N) mixed Try.func203 (c := code) (by kernel_rfl) (by kernel_rfl) (sp N) (Nat.le_of_ble_eq_true (by kernel_rfl)) live [] (by
    rintro ⟨a0, a1, a2, _⟩ r h
    exact ⟨N, 2, ((run N _ a0 a1 a2).trans rfl).trans h⟩)
end impl_Disk_append_
namespace impl_Disk_crash
noncomputable def code : Code := Try.f204.body.getD .skip
abbrev live : Live := [(1, [0, 1, 11, 12])]
noncomputable def G (N : Nat) : Ctx E := gam []
noncomputable def loop1 : Code := codeAt code [1, 0]
noncomputable def body1 : Code := codeAt loop1 [0]
noncomputable def K1 (N : Nat) (o0 : Orc E R) : KT E R := kAt T (G N) live [] o0 code [1, 0] (kfin T Try.f204 (sp N))
noncomputable def St1 (a0 : Disk) (a1 : List Int) : (Int × Int × (List File)) → St E
  | (v1, v2, v4) => { ρ := [(0, .c (.at (.ptr 0 0))), (1, .c (.at (.ro 3 (.int .i64) a1))), (11, .c (.at (.int .i64 v1))), (12, .c (.at (.int .i64 v2)))], H := [(0, .box 27 [.int .i64 a0.Room, .own 1]), (1, .row 42 (.st 42) v4 false)], nx := 2, n := 64, pin := [0] }
noncomputable def m0 (N : Nat) (a0 : Disk) (a1 : List Int) (lp1 : Int × Int × (List File) → Option R) : Option R :=
  lp1 ((a0.Files.length : Int), (0:Int), a0.Files)
theorem run (N : Nat) (o0 : Orc E R) (a0 : Disk) (a1 : List Int) : runF T (G N) live [] Try.f204 code (sp N) o0 (a0, a1, ()) = m0 N a0 a1 (fun a => o0 loop1 (K1 N o0) (St1 a0 a1 a)) := by kernel_rfl
theorem body1_0 (N : Nat) (o0 : Orc E R) (o1 : Orc E R) (q1 : St E → Option R) (a0 : Disk) (a1 : List Int) (v1 : Int) (v2 : Int) (v4 : List File) : runA T (G N) live [] o1 body1 (St1 a0 a1 (v1, v2, v4)) (kloop [0, 1, 11, 12] q1 (K1 N o0)) = step1 N a0 a1 (fun a => q1 (St1 a0 a1 a)) (v1, v2, v4) := by kernel_rfl
theorem lp1_eq (N : Nat) (a0 : Disk) (a1 : List Int) (a : Int × Int × (List File)) : (orc T (G N) live [] N 2) loop1 (K1 N (orc T (G N) live [] N 2)) (St1 a0 a1 a) = lp1 N a0 a1 a :=
  (orc_loop (b := body1) (live := [0, 1, 11, 12]) (by kernel_rfl)).trans (iter_eq (St1 a0 a1) _ _ (fun q1 a => by
    have hc := congrFun (congrFun (rfl : (step1 N a0 a1) = (step1 N a0 a1)) (fun a => q1 (St1 a0 a1 a))) a
    obtain ⟨u0, u1, u2⟩ := a
    exact (body1_0 N (orc T (G N) live [] N 2) (orc T (G N) live [] N 1) q1 a0 a1 u0 u1 u2).trans hc) N a)
theorem G_ok (N : Nat) : GamOK Try.prog (G N) := gam_ok (l := []) (trivial)
theorem snd (N : Nat) : Sound Try.prog E 204 (sp N) :=
  Mir.sound T_OK (G_ok N) mixed Try.func204 (c := code) (by kernel_rfl) (by kernel_rfl) (sp N) (Nat.le_of_ble_eq_true (by kernel_rfl)) live [] (by
    rintro ⟨a0, a1, _⟩ r h
    exact ⟨N, 2, ((run N _ a0 a1).trans (congrArg (m0 N a0 a1) (funext fun a => lp1_eq N a0 a1 a))).trans h⟩)
end impl_Disk_crash
namespace slices_Delete_impl_File
theorem snd (N : Nat) : Sound Try.prog E 206 (sp N) :=
  delete_sound (E := E) (ty := (.st 42)) (fun args W => run_callFunc_go Try.func206 (c := Try.f206.body.getD .skip) (by kernel_rfl) (by kernel_rfl) args W) Try.underlying25 (i := Try.t42) (by kernel_rfl) (z := Try.t42.zero.getD undef) (by kernel_rfl) (by kernel_rfl) (by kernel_rfl) (fun v hv => List.all_eq_true.1 (show (Try.t42.zero.getD undef).cells.toList.all Value.oneCell' = true by kernel_rfl) v hv) Go.Proofs.DelW206.del
end slices_Delete_impl_File
namespace impl_Disk_rename
noncomputable def code : Code := Try.f205.body.getD .skip
abbrev live : Live := []
noncomputable def G (N : Nat) : Ctx E := gam [(82, [], impl_NameOK.sp N), (206, [], slices_Delete_impl_File.sp N), (84, [], impl_Disk_fileAt.sp N), (238, [], slices_Insert_impl_File.sp N)]
noncomputable def m0 (N : Nat) (a0 : Disk) (a1 : Int) (a2 : ByteArray) : Option R :=
  ob (impl_NameOK.m N a2) fun y1 =>
  bif (!y1) then
    some ((1:Int), a0)
  else
  bif (decide (0 ≤ a1)) then
  bif (decide (a1 < (a0.Files.length : Int))) then
  ob (slices_Delete_impl_File.m N a0.Files a1 (w64 (a1 + (1:Int)))) fun y2 =>
  ob (impl_Disk_fileAt.m N (Disk.mk a0.Room y2) a2) fun y3 =>
  bif y3.2 then
    bif (decide (0 ≤ y3.1)) then
    bif (decide (y3.1 < (y2.length : Int))) then
    some ((0:Int), (Disk.mk a0.Room (y2.set (Int.toNat y3.1) (File.mk a2 ((a0.Files.getD (Int.toNat a1) File.dz).Data) ((a0.Files.getD (Int.toNat a1) File.dz).Sure)))))
    else none
    else none
  else
  ob (slices_Insert_impl_File.m N y2 y3.1 ([(File.mk a2 ((a0.Files.getD (Int.toNat a1) File.dz).Data) ((a0.Files.getD (Int.toNat a1) File.dz).Sure))])) fun y4 =>
  some ((0:Int), (Disk.mk a0.Room y4))
  else none
  else none
theorem run (N : Nat) (o0 : Orc E R) (a0 : Disk) (a1 : Int) (a2 : ByteArray) : runF T (G N) live [] Try.f205 code (sp N) o0 (a0, a1, a2, ()) = m0 N a0 a1 a2 := by kernel_rfl
theorem G_ok (N : Nat) : GamOK Try.prog (G N) := gam_ok (l := [(82, [], impl_NameOK.sp N), (206, [], slices_Delete_impl_File.sp N), (84, [], impl_Disk_fileAt.sp N), (238, [], slices_Insert_impl_File.sp N)]) (⟨impl_NameOK.snd N, slices_Delete_impl_File.snd N, impl_Disk_fileAt.snd N, slices_Insert_impl_File.snd N, trivial⟩)
theorem snd (N : Nat) : Sound Try.prog E 205 (sp N) :=
  Mir.sound T_OK (G_ok N) mixed Try.func205 (c := code) (by kernel_rfl) (by kernel_rfl) (sp N) (Nat.le_of_ble_eq_true (by kernel_rfl)) live [] (by
    rintro ⟨a0, a1, a2, _⟩ r h
    exact ⟨N, 2, ((run N _ a0 a1 a2).trans rfl).trans h⟩)
end impl_Disk_rename
namespace impl_Disk_do
noncomputable def code : Code := Try.f146.body.getD .skip
abbrev live : Live := []
noncomputable def G (N : Nat) : Ctx E := gam [(203, [], impl_Disk_append_.sp N), (204, [], impl_Disk_crash.sp N), (81, [], impl_within.sp N), (84, [], impl_Disk_fileAt.sp N), (205, [], impl_Disk_rename.sp N), (206, [], slices_Delete_impl_File.sp N)]
noncomputable def m0 (N : Nat) (a0 : Disk) (a1 : FileAct) : Option R :=
  bif (a1.Kind == (1:Int)) then
    ob (impl_Disk_append_.m N a0 a1.Name a1.Data) fun y1 =>
    some (y1.1, y1.2)
  else
  bif (a1.Kind == (5:Int)) then
    ob (impl_Disk_crash.m N a0 a1.Keep) fun y2 =>
    some ((0:Int), y2)
  else
  ob (impl_within.m N a1.Kind (2:Int) (6:Int)) fun y3 =>
  bif (!y3) then
    some ((3:Int), a0)
  else
  ob (impl_Disk_fileAt.m N a0 a1.Name) fun y4 =>
  bif (!y4.2) then
    some ((5:Int), a0)
  else
  bif (decide (0 ≤ y4.1)) then
  bif (decide (y4.1 < (a0.Files.length : Int))) then
  bif (a1.Kind == (2:Int)) then
    (let w5 : List File := (a0.Files.set (Int.toNat y4.1) (File.mk ((a0.Files.getD (Int.toNat y4.1) File.dz).Name) ((a0.Files.getD (Int.toNat y4.1) File.dz).Data) (((a0.Files.getD (Int.toNat y4.1) File.dz).Data).size : Int)))
    some ((0:Int), (Disk.mk a0.Room w5)))
  else
  bif (a1.Kind == (3:Int)) then
    ob (impl_Disk_rename.m N a0 y4.1 a1.To) fun y6 =>
    some (y6.1, y6.2)
  else
  bif (a1.Kind == (4:Int)) then
    ob (slices_Delete_impl_File.m N a0.Files y4.1 (w64 (y4.1 + (1:Int)))) fun y7 =>
    some ((0:Int), (Disk.mk a0.Room y7))
  else
  bif (a1.Kind == (6:Int)) then
    ob (impl_within.m N a1.N (0:Int) (((a0.Files.getD (Int.toNat y4.1) File.dz).Data).size : Int)) fun y8 =>
    bif (!y8) then
      some ((4:Int), a0)
    else
    bif (decide (0 ≤ a1.N)) then
    bif (decide (a1.N ≤ ((((a0.Files.getD (Int.toNat y4.1) File.dz).Data).size : Nat) : Int))) then
    (let w9 : List File := (a0.Files.set (Int.toNat y4.1) (File.mk ((a0.Files.getD (Int.toNat y4.1) File.dz).Name) (((a0.Files.getD (Int.toNat y4.1) File.dz).Data).extract 0 (Int.toNat a1.N)) ((a0.Files.getD (Int.toNat y4.1) File.dz).Sure)))
    (let w10 : List File := (w9.set (Int.toNat y4.1) (File.mk ((w9.getD (Int.toNat y4.1) File.dz).Name) ((w9.getD (Int.toNat y4.1) File.dz).Data) (if a1.N < (a0.Files.getD (Int.toNat y4.1) File.dz).Sure then a1.N else (a0.Files.getD (Int.toNat y4.1) File.dz).Sure)))
    some ((0:Int), (Disk.mk a0.Room w10))))
    else none
    else none
  else
  some ((0:Int), a0)
  else none
  else none
theorem run (N : Nat) (o0 : Orc E R) (a0 : Disk) (a1 : FileAct) : runF T (G N) live [] Try.f146 code (sp N) o0 (a0, a1, ()) = m0 N a0 a1 := by kernel_rfl
theorem G_ok (N : Nat) : GamOK Try.prog (G N) := gam_ok (l := [(203, [], impl_Disk_append_.sp N), (204, [], impl_Disk_crash.sp N), (81, [], impl_within.sp N), (84, [], impl_Disk_fileAt.sp N), (205, [], impl_Disk_rename.sp N), (206, [], slices_Delete_impl_File.sp N)]) (⟨impl_Disk_append_.snd N, impl_Disk_crash.snd N, impl_within.snd N, impl_Disk_fileAt.snd N, impl_Disk_rename.snd N, slices_Delete_impl_File.snd N, trivial⟩)
theorem snd (N : Nat) : Sound Try.prog E 146 (sp N) :=
  Mir.sound T_OK (G_ok N) mixed Try.func146 (c := code) (by kernel_rfl) (by kernel_rfl) (sp N) (Nat.le_of_ble_eq_true (by kernel_rfl)) live [] (by
    rintro ⟨a0, a1, _⟩ r h
    exact ⟨N, 2, ((run N _ a0 a1).trans rfl).trans h⟩)
end impl_Disk_do
namespace impl_step
noncomputable def code : Code := Try.f76.body.getD .skip
abbrev live : Live := []
noncomputable def G (N : Nat) : Ctx E := gam [(145, [], impl_copyDisk.sp N), (146, [], impl_Disk_do.sp N)]
noncomputable def m0 (N : Nat) (a0 : Disk) (a1 : FileAct) : Option R :=
  ob (impl_copyDisk.m N a0) fun y1 =>
  ob (impl_Disk_do.m N y1 a1) fun y2 =>
  bif (y2.1 != (0:Int)) then
    ob (impl_copyDisk.m N a0) fun y3 =>
    some (y3, y2.1)
  else
  some (y2.2, (0:Int))
theorem run (N : Nat) (o0 : Orc E R) (a0 : Disk) (a1 : FileAct) : runF T (G N) live [] Try.f76 code (sp N) o0 (a0, a1, ()) = m0 N a0 a1 := by kernel_rfl
theorem G_ok (N : Nat) : GamOK Try.prog (G N) := gam_ok (l := [(145, [], impl_copyDisk.sp N), (146, [], impl_Disk_do.sp N)]) (⟨impl_copyDisk.snd N, impl_Disk_do.snd N, trivial⟩)
theorem snd (N : Nat) : Sound Try.prog E 76 (sp N) :=
  Mir.sound T_OK (G_ok N) mixed Try.func76 (c := code) (by kernel_rfl) (by kernel_rfl) (sp N) (Nat.le_of_ble_eq_true (by kernel_rfl)) live [] (by
    rintro ⟨a0, a1, _⟩ r h
    exact ⟨N, 2, ((run N _ a0 a1).trans rfl).trans h⟩)
end impl_step
namespace impl_FileRun
noncomputable def code : Code := Try.f15.body.getD .skip
abbrev live : Live := [(10, [4, 7, 9, 32, 33, 34])]
noncomputable def G (N : Nat) : Ctx E := gam [(74, [], impl_isList_impl_FileAct.sp N), (75, [], impl_NewDisk.sp N), (76, [], impl_step.sp N)]
noncomputable def loop10 : Code := codeAt code [1, 1, 1, 1, 1, 0, 1, 0]
noncomputable def body10 : Code := codeAt loop10 [0]
noncomputable def K10 (N : Nat) (o0 : Orc E R) : KT E R := kAt T (G N) live [] o0 code [1, 1, 1, 1, 1, 0, 1, 0] (kfin T Try.f15 (sp N))
noncomputable def St10 (a0 : Int) (a1 : List FileAct) : (Int × Int × Int × Int × (List File) × (List Int)) → St E
  | (v1, v2, v3, v4, v5, v6) => { ρ := [(4, .c (.at (.ptr 0 0))), (7, .c (.at (.ptr 1 0))), (9, .c (.at (.own 3))), (32, .c (.at (.ro 40 (.st 40) a1))), (33, .c (.at (.int .i64 v1))), (34, .c (.at (.int .i64 v2)))], H := [(0, .box 27 [.int .i64 v3, .nils]), (1, .box 27 [.int .i64 v4, .own 2]), (2, .row 42 (.st 42) v5 false), (3, .row 3 (.int .i64) v6 false)], nx := 4, n := 51, pin := [] }
noncomputable def m0 (N : Nat) (a0 : Int) (a1 : List FileAct) (lp10 : Int × Int × Int × Int × (List File) × (List Int) → Option R) : Option R :=
  ob (impl_isList_impl_FileAct.m N a1) fun y1 =>
  bif (!y1) then
    some ((Disk.mk (0:Int) ([] : List File)), ([] : List Int), (2:Int))
  else
  ob (impl_NewDisk.m N a0) fun y2 =>
  bif (y2.2 != (0:Int)) then
    some ((Disk.mk (0:Int) ([] : List File)), ([] : List Int), y2.2)
  else
  bif (decide ((a1.length : Int) > (120:Int))) then
    some ((Disk.mk (0:Int) ([] : List File)), ([] : List Int), (6:Int))
  else
  lp10 ((a1.length : Int), (0:Int), (0:Int), y2.1.Room, y2.1.Files, ([] : List Int))
theorem run (N : Nat) (o0 : Orc E R) (a0 : Int) (a1 : List FileAct) : runF T (G N) live [] Try.f15 code (sp N) o0 (a0, a1, ()) = m0 N a0 a1 (fun a => o0 loop10 (K10 N o0) (St10 a0 a1 a)) := by kernel_rfl
theorem body10_0 (N : Nat) (o0 : Orc E R) (o1 : Orc E R) (q1 : St E → Option R) (a0 : Int) (a1 : List FileAct) (v1 : Int) (v2 : Int) (v3 : Int) (v4 : Int) (v5 : List File) (v6 : List Int) : runA T (G N) live [] o1 body10 (St10 a0 a1 (v1, v2, v3, v4, v5, v6)) (kloop [4, 7, 9, 32, 33, 34] q1 (K10 N o0)) = step10 N a0 a1 (fun a => q1 (St10 a0 a1 a)) (v1, v2, v3, v4, v5, v6) := by kernel_rfl
theorem lp10_eq (N : Nat) (a0 : Int) (a1 : List FileAct) (a : Int × Int × Int × Int × (List File) × (List Int)) : (orc T (G N) live [] N 2) loop10 (K10 N (orc T (G N) live [] N 2)) (St10 a0 a1 a) = lp10 N a0 a1 a :=
  (orc_loop (b := body10) (live := [4, 7, 9, 32, 33, 34]) (by kernel_rfl)).trans (iter_eq (St10 a0 a1) _ _ (fun q1 a => by
    have hc := congrFun (congrFun (rfl : (step10 N a0 a1) = (step10 N a0 a1)) (fun a => q1 (St10 a0 a1 a))) a
    obtain ⟨u0, u1, u2, u3, u4, u5⟩ := a
    exact (body10_0 N (orc T (G N) live [] N 2) (orc T (G N) live [] N 1) q1 a0 a1 u0 u1 u2 u3 u4 u5).trans hc) N a)
theorem G_ok (N : Nat) : GamOK Try.prog (G N) := gam_ok (l := [(74, [], impl_isList_impl_FileAct.sp N), (75, [], impl_NewDisk.sp N), (76, [], impl_step.sp N)]) (⟨impl_isList_impl_FileAct.snd N, impl_NewDisk.snd N, impl_step.snd N, trivial⟩)
theorem snd (N : Nat) : Sound Try.prog E 15 (sp N) :=
  Mir.sound T_OK (G_ok N) mixed Try.func15 (c := code) (by kernel_rfl) (by kernel_rfl) (sp N) (Nat.le_of_ble_eq_true (by kernel_rfl)) live [] (by
    rintro ⟨a0, a1, _⟩ r h
    exact ⟨N, 2, ((run N _ a0 a1).trans (congrArg (m0 N a0 a1) (funext fun a => lp10_eq N a0 a1 a))).trans h⟩)
end impl_FileRun
namespace spec_l01In
noncomputable def code : Code := Try.f135.body.getD .skip
abbrev live : Live := []
noncomputable def G (N : Nat) : Ctx E := gam []
noncomputable def m0 (N : Nat) (a0 : Int) (a1 : Int) (a2 : Int) : Option R :=
  bif (decide (a0 ≥ a1)) then
    some (bif true then (decide (a0 ≤ a2)) else false)
  else
  some false
theorem run (N : Nat) (o0 : Orc E R) (a0 : Int) (a1 : Int) (a2 : Int) : runF T (G N) live [] Try.f135 code (sp N) o0 (a0, a1, a2, ()) = m0 N a0 a1 a2 := by kernel_rfl
theorem G_ok (N : Nat) : GamOK Try.prog (G N) := gam_ok (l := []) (trivial)
theorem snd (N : Nat) : Sound Try.prog E 135 (sp N) :=
  Mir.sound T_OK (G_ok N) mixed Try.func135 (c := code) (by kernel_rfl) (by kernel_rfl) (sp N) (Nat.le_of_ble_eq_true (by kernel_rfl)) live [] (by
    rintro ⟨a0, a1, a2, _⟩ r h
    exact ⟨N, 2, ((run N _ a0 a1 a2).trans rfl).trans h⟩)
end spec_l01In
namespace spec_NewDisk
noncomputable def code : Code := Try.f77.body.getD .skip
abbrev live : Live := []
noncomputable def G (N : Nat) : Ctx E := gam [(135, [], spec_l01In.sp N)]
noncomputable def m0 (N : Nat) (a0 : Int) : Option R :=
  ob (spec_l01In.m N a0 (0:Int) (3000:Int)) fun y1 =>
  bif (!y1) then
    some ((Disk.mk (0:Int) ([] : List File)), (4:Int))
  else
  some ((Disk.mk a0 ([] : List File)), (0:Int))
theorem run (N : Nat) (o0 : Orc E R) (a0 : Int) : runF T (G N) live [] Try.f77 code (sp N) o0 (a0, ()) = m0 N a0 := by kernel_rfl
theorem G_ok (N : Nat) : GamOK Try.prog (G N) := gam_ok (l := [(135, [], spec_l01In.sp N)]) (⟨spec_l01In.snd N, trivial⟩)
theorem snd (N : Nat) : Sound Try.prog E 77 (sp N) :=
  Mir.sound T_OK (G_ok N) mixed Try.func77 (c := code) (by kernel_rfl) (by kernel_rfl) (sp N) (Nat.le_of_ble_eq_true (by kernel_rfl)) live [] (by
    rintro ⟨a0, _⟩ r h
    exact ⟨N, 2, ((run N _ a0).trans rfl).trans h⟩)
end spec_NewDisk
namespace spec_l03Find
noncomputable def code : Code := Try.f149.body.getD .skip
abbrev live : Live := [(2, [1, 2, 5])]
noncomputable def G (N : Nat) : Ctx E := gam []
noncomputable def loop2 : Code := codeAt code [1, 0, 1, 0]
noncomputable def body2 : Code := codeAt loop2 [0]
noncomputable def K2 (N : Nat) (o0 : Orc E R) : KT E R := kAt T (G N) live [] o0 code [1, 0, 1, 0] (kfin T Try.f149 (sp N))
noncomputable def St2 (a0 : Disk) (a1 : ByteArray) : Int → St E
  | v1 => { ρ := [(1, .c (.at (.str a1))), (2, .c (.at (.ptr 0 0))), (5, .c (.at (.int .i64 v1)))], H := [(0, .box 27 [.int .i64 a0.Room, .ro 42 (.st 42) a0.Files])], nx := 1, n := 22, pin := [] }
noncomputable def m0 (N : Nat) (a0 : Disk) (a1 : ByteArray) (lp2 : Int → Option R) : Option R :=
  lp2 (0:Int)
theorem run (N : Nat) (o0 : Orc E R) (a0 : Disk) (a1 : ByteArray) : runF T (G N) live [] Try.f149 code (sp N) o0 (a0, a1, ()) = m0 N a0 a1 (fun a => o0 loop2 (K2 N o0) (St2 a0 a1 a)) := by kernel_rfl
theorem body2_0 (N : Nat) (o0 : Orc E R) (o1 : Orc E R) (q1 : St E → Option R) (a0 : Disk) (a1 : ByteArray) (v1 : Int) : runA T (G N) live [] o1 body2 (St2 a0 a1 v1) (kloop [1, 2, 5] q1 (K2 N o0)) = step2 N a0 a1 (fun a => q1 (St2 a0 a1 a)) v1 := by kernel_rfl
theorem lp2_eq (N : Nat) (a0 : Disk) (a1 : ByteArray) (a : Int) : (orc T (G N) live [] N 2) loop2 (K2 N (orc T (G N) live [] N 2)) (St2 a0 a1 a) = lp2 N a0 a1 a :=
  (orc_loop (b := body2) (live := [1, 2, 5]) (by kernel_rfl)).trans (iter_eq (St2 a0 a1) _ _ (fun q1 a => by
    have hc := congrFun (congrFun (rfl : (step2 N a0 a1) = (step2 N a0 a1)) (fun a => q1 (St2 a0 a1 a))) a
    exact (body2_0 N (orc T (G N) live [] N 2) (orc T (G N) live [] N 1) q1 a0 a1 a).trans hc) N a)
theorem G_ok (N : Nat) : GamOK Try.prog (G N) := gam_ok (l := []) (trivial)
theorem snd (N : Nat) : Sound Try.prog E 149 (sp N) :=
  Mir.sound T_OK (G_ok N) mixed Try.func149 (c := code) (by kernel_rfl) (by kernel_rfl) (sp N) (Nat.le_of_ble_eq_true (by kernel_rfl)) live [] (by
    rintro ⟨a0, a1, _⟩ r h
    exact ⟨N, 2, ((run N _ a0 a1).trans (congrArg (m0 N a0 a1) (funext fun a => lp2_eq N a0 a1 a))).trans h⟩)
end spec_l03Find
namespace spec_l00Letter
noncomputable def code : Code := Try.f239.body.getD .skip
abbrev live : Live := []
noncomputable def G (N : Nat) : Ctx E := gam []
noncomputable def m0 (N : Nat) (a0 : Int) : Option R :=
  bif (decide (a0 ≥ (97:Int))) then
    bif (bif true then (decide (a0 ≤ (122:Int))) else false) then
      some true
    else
    bif (decide (a0 ≥ (65:Int))) then
      bif (bif false then true else (bif true then (decide (a0 ≤ (90:Int))) else false)) then
        some true
      else
      some (bif false then true else (a0 == (95:Int)))
    else
    bif (bif false then true else false) then
      some true
    else
    some (bif false then true else (a0 == (95:Int)))
  else
  bif (decide (a0 ≥ (65:Int))) then
    bif (bif false then true else (bif true then (decide (a0 ≤ (90:Int))) else false)) then
      some true
    else
    some (bif false then true else (a0 == (95:Int)))
  else
  bif (bif false then true else false) then
    some true
  else
  some (bif false then true else (a0 == (95:Int)))
theorem run (N : Nat) (o0 : Orc E R) (a0 : Int) : runF T (G N) live [] Try.f239 code (sp N) o0 (a0, ()) = m0 N a0 := by kernel_rfl
theorem G_ok (N : Nat) : GamOK Try.prog (G N) := gam_ok (l := []) (trivial)
theorem snd (N : Nat) : Sound Try.prog E 239 (sp N) :=
  Mir.sound T_OK (G_ok N) mixed Try.func239 (c := code) (by kernel_rfl) (by kernel_rfl) (sp N) (Nat.le_of_ble_eq_true (by kernel_rfl)) live [] (by
    rintro ⟨a0, _⟩ r h
    exact ⟨N, 2, ((run N _ a0).trans rfl).trans h⟩)
end spec_l00Letter
namespace spec_l00Digit
noncomputable def code : Code := Try.f240.body.getD .skip
abbrev live : Live := []
noncomputable def G (N : Nat) : Ctx E := gam []
noncomputable def m0 (N : Nat) (a0 : Int) : Option R :=
  bif (decide (a0 ≥ (48:Int))) then
    some (bif true then (decide (a0 ≤ (57:Int))) else false)
  else
  some false
theorem run (N : Nat) (o0 : Orc E R) (a0 : Int) : runF T (G N) live [] Try.f240 code (sp N) o0 (a0, ()) = m0 N a0 := by kernel_rfl
theorem G_ok (N : Nat) : GamOK Try.prog (G N) := gam_ok (l := []) (trivial)
theorem snd (N : Nat) : Sound Try.prog E 240 (sp N) :=
  Mir.sound T_OK (G_ok N) mixed Try.func240 (c := code) (by kernel_rfl) (by kernel_rfl) (sp N) (Nat.le_of_ble_eq_true (by kernel_rfl)) live [] (by
    rintro ⟨a0, _⟩ r h
    exact ⟨N, 2, ((run N _ a0).trans rfl).trans h⟩)
end spec_l00Digit
namespace spec_l00Word
noncomputable def code : Code := Try.f207.body.getD .skip
abbrev live : Live := [(4, [0, 3])]
noncomputable def G (N : Nat) : Ctx E := gam [(239, [], spec_l00Letter.sp N), (240, [], spec_l00Digit.sp N)]
noncomputable def loop4 : Code := codeAt code [1, 1, 0, 1, 0]
noncomputable def body4 : Code := codeAt loop4 [0]
noncomputable def K4 (N : Nat) (o0 : Orc E R) : KT E R := kAt T (G N) live [] o0 code [1, 1, 0, 1, 0] (kfin T Try.f207 (sp N))
noncomputable def St4 (a0 : ByteArray) : Int → St E
  | v1 => { ρ := [(0, .c (.at (.str a0))), (3, .c (.at (.int .i64 v1)))], H := [], nx := 0, n := 36, pin := [] }
noncomputable def m0 (N : Nat) (a0 : ByteArray) (lp4 : Int → Option R) : Option R :=
  bif (decide ((a0.size : Int) < (1:Int))) then
    some false
  else
  bif (bif false then true else (decide ((a0.size : Int) > (40:Int)))) then
    some false
  else
  bif (decide (0 ≤ (0:Int))) then
  bif (decide ((0:Int) < (a0.size : Int))) then
  ob (spec_l00Letter.m N (sb a0 (0:Int))) fun y1 =>
  bif (bif false then true else (!y1)) then
    some false
  else
  lp4 (1:Int)
  else none
  else none
theorem run (N : Nat) (o0 : Orc E R) (a0 : ByteArray) : runF T (G N) live [] Try.f207 code (sp N) o0 (a0, ()) = m0 N a0 (fun a => o0 loop4 (K4 N o0) (St4 a0 a)) := by kernel_rfl
theorem body4_0 (N : Nat) (o0 : Orc E R) (o1 : Orc E R) (q1 : St E → Option R) (a0 : ByteArray) (v1 : Int) : runA T (G N) live [] o1 body4 (St4 a0 v1) (kloop [0, 3] q1 (K4 N o0)) = step4 N a0 (fun a => q1 (St4 a0 a)) v1 := by kernel_rfl
theorem lp4_eq (N : Nat) (a0 : ByteArray) (a : Int) : (orc T (G N) live [] N 2) loop4 (K4 N (orc T (G N) live [] N 2)) (St4 a0 a) = lp4 N a0 a :=
  (orc_loop (b := body4) (live := [0, 3]) (by kernel_rfl)).trans (iter_eq (St4 a0) _ _ (fun q1 a => by
    have hc := congrFun (congrFun (rfl : (step4 N a0) = (step4 N a0)) (fun a => q1 (St4 a0 a))) a
    exact (body4_0 N (orc T (G N) live [] N 2) (orc T (G N) live [] N 1) q1 a0 a).trans hc) N a)
theorem G_ok (N : Nat) : GamOK Try.prog (G N) := gam_ok (l := [(239, [], spec_l00Letter.sp N), (240, [], spec_l00Digit.sp N)]) (⟨spec_l00Letter.snd N, spec_l00Digit.snd N, trivial⟩)
theorem snd (N : Nat) : Sound Try.prog E 207 (sp N) :=
  Mir.sound T_OK (G_ok N) mixed Try.func207 (c := code) (by kernel_rfl) (by kernel_rfl) (sp N) (Nat.le_of_ble_eq_true (by kernel_rfl)) live [] (by
    rintro ⟨a0, _⟩ r h
    exact ⟨N, 2, ((run N _ a0).trans (congrArg (m0 N a0) (funext fun a => lp4_eq N a0 a))).trans h⟩)
end spec_l00Word
namespace spec_NameOK
noncomputable def code : Code := Try.f152.body.getD .skip
abbrev live : Live := []
noncomputable def G (N : Nat) : Ctx E := gam [(207, [], spec_l00Word.sp N)]
noncomputable def m0 (N : Nat) (a0 : ByteArray) : Option R :=
  ob (spec_l00Word.m N a0) fun y1 =>
  some y1
theorem run (N : Nat) (o0 : Orc E R) (a0 : ByteArray) : runF T (G N) live [] Try.f152 code (sp N) o0 (a0, ()) = m0 N a0 := by kernel_rfl
theorem G_ok (N : Nat) : GamOK Try.prog (G N) := gam_ok (l := [(207, [], spec_l00Word.sp N)]) (⟨spec_l00Word.snd N, trivial⟩)
theorem snd (N : Nat) : Sound Try.prog E 152 (sp N) :=
  Mir.sound T_OK (G_ok N) mixed Try.func152 (c := code) (by kernel_rfl) (by kernel_rfl) (sp N) (Nat.le_of_ble_eq_true (by kernel_rfl)) live [] (by
    rintro ⟨a0, _⟩ r h
    exact ⟨N, 2, ((run N _ a0).trans rfl).trans h⟩)
end spec_NameOK
namespace spec_l03Used
noncomputable def code : Code := Try.f159.body.getD .skip
abbrev live : Live := [(3, [1, 3, 4])]
noncomputable def G (N : Nat) : Ctx E := gam []
noncomputable def loop3 : Code := codeAt code [1, 1, 0, 1, 0]
noncomputable def body3 : Code := codeAt loop3 [0]
noncomputable def K3 (N : Nat) (o0 : Orc E R) : KT E R := kAt T (G N) live [] o0 code [1, 1, 0, 1, 0] (kfin T Try.f159 (sp N))
noncomputable def St3 (a0 : Disk) : (Int × Int) → St E
  | (v0, v1) => { ρ := [(1, .c (.at (.ptr 0 0))), (3, .c (.at (.int .i64 v0))), (4, .c (.at (.int .i64 v1)))], H := [(0, .box 27 [.int .i64 a0.Room, .ro 42 (.st 42) a0.Files])], nx := 1, n := 22, pin := [] }
noncomputable def m0 (N : Nat) (a0 : Disk) (lp3 : Int × Int → Option R) : Option R :=
  lp3 ((0:Int), (0:Int))
theorem run (N : Nat) (o0 : Orc E R) (a0 : Disk) : runF T (G N) live [] Try.f159 code (sp N) o0 (a0, ()) = m0 N a0 (fun a => o0 loop3 (K3 N o0) (St3 a0 a)) := by kernel_rfl
theorem body3_0 (N : Nat) (o0 : Orc E R) (o1 : Orc E R) (q1 : St E → Option R) (a0 : Disk) (v0 : Int) (v1 : Int) : runA T (G N) live [] o1 body3 (St3 a0 (v0, v1)) (kloop [1, 3, 4] q1 (K3 N o0)) = step3 N a0 (fun a => q1 (St3 a0 a)) (v0, v1) := by kernel_rfl
theorem lp3_eq (N : Nat) (a0 : Disk) (a : Int × Int) : (orc T (G N) live [] N 2) loop3 (K3 N (orc T (G N) live [] N 2)) (St3 a0 a) = lp3 N a0 a :=
  (orc_loop (b := body3) (live := [1, 3, 4]) (by kernel_rfl)).trans (iter_eq (St3 a0) _ _ (fun q1 a => by
    have hc := congrFun (congrFun (rfl : (step3 N a0) = (step3 N a0)) (fun a => q1 (St3 a0 a))) a
    obtain ⟨u0, u1⟩ := a
    exact (body3_0 N (orc T (G N) live [] N 2) (orc T (G N) live [] N 1) q1 a0 u0 u1).trans hc) N a)
theorem G_ok (N : Nat) : GamOK Try.prog (G N) := gam_ok (l := []) (trivial)
theorem snd (N : Nat) : Sound Try.prog E 159 (sp N) :=
  Mir.sound T_OK (G_ok N) mixed Try.func159 (c := code) (by kernel_rfl) (by kernel_rfl) (sp N) (Nat.le_of_ble_eq_true (by kernel_rfl)) live [] (by
    rintro ⟨a0, _⟩ r h
    exact ⟨N, 2, ((run N _ a0).trans (congrArg (m0 N a0) (funext fun a => lp3_eq N a0 a))).trans h⟩)
end spec_l03Used
namespace spec_l03Put
noncomputable def code : Code := Try.f150.body.getD .skip
abbrev live : Live := [(4, [2, 3, 4, 5, 6, 7])]
noncomputable def G (N : Nat) : Ctx E := gam []
noncomputable def loop4 : Code := codeAt code [1, 1, 1, 0, 1, 0]
noncomputable def body4 : Code := codeAt loop4 [0]
noncomputable def K4 (N : Nat) (o0 : Orc E R) : KT E R := kAt T (G N) live [] o0 code [1, 1, 1, 0, 1, 0] (kfin T Try.f150 (sp N))
noncomputable def St4 (a0 : Disk) (a1 : File) : A4 → St E
  | .s0 v0 v6 v8 => { ρ := [(2, .c (.at (.ptr 0 0))), (3, .c (.at (.ptr 1 0))), (4, .c (.at (.ptr 2 0))), (5, .c (.at (.ptr 3 0))), (6, .c (.at (.bool false))), (7, .c (.at (.int .i64 v0)))], H := [(0, .box 27 [.int .i64 a0.Room, .ro 42 (.st 42) a0.Files]), (1, .box 42 [.str a1.Name, .str a1.Data, .int .i64 a1.Sure]), (2, .box 27 [.int .i64 v6, .nils]), (3, .box 27 [.int .i64 a0.Room, .own 4]), (4, .row 42 (.st 42) v8 false)], nx := 5, n := 66, pin := [] }
  | .s1 v0 v6 v8 => { ρ := [(2, .c (.at (.ptr 0 0))), (3, .c (.at (.ptr 1 0))), (4, .c (.at (.ptr 2 0))), (5, .c (.at (.ptr 3 0))), (6, .c (.at (.bool true))), (7, .c (.at (.int .i64 v0)))], H := [(0, .box 27 [.int .i64 a0.Room, .ro 42 (.st 42) a0.Files]), (1, .box 42 [.str a1.Name, .str a1.Data, .int .i64 a1.Sure]), (2, .box 27 [.int .i64 v6, .nils]), (3, .box 27 [.int .i64 a0.Room, .own 4]), (4, .row 42 (.st 42) v8 false)], nx := 5, n := 66, pin := [] }
noncomputable def m0 (N : Nat) (a0 : Disk) (a1 : File) (lp4 : A4 → Option R) : Option R :=
  lp4 (.s0 (0:Int) (0:Int) ([] : List File))
theorem run (N : Nat) (o0 : Orc E R) (a0 : Disk) (a1 : File) : runF T (G N) live [] Try.f150 code (sp N) o0 (a0, a1, ()) = m0 N a0 a1 (fun a => o0 loop4 (K4 N o0) (St4 a0 a1 a)) := by kernel_rfl
theorem body4_0 (N : Nat) (o0 : Orc E R) (o1 : Orc E R) (q1 : St E → Option R) (a0 : Disk) (a1 : File) (v0 : Int) (v6 : Int) (v8 : List File) : runA T (G N) live [] o1 body4 (St4 a0 a1 (.s0 v0 v6 v8)) (kloop [2, 3, 4, 5, 6, 7] q1 (K4 N o0)) = step4 N a0 a1 (fun a => q1 (St4 a0 a1 a)) (.s0 v0 v6 v8) := by kernel_rfl
theorem body4_1 (N : Nat) (o0 : Orc E R) (o1 : Orc E R) (q1 : St E → Option R) (a0 : Disk) (a1 : File) (v0 : Int) (v6 : Int) (v8 : List File) : runA T (G N) live [] o1 body4 (St4 a0 a1 (.s1 v0 v6 v8)) (kloop [2, 3, 4, 5, 6, 7] q1 (K4 N o0)) = step4 N a0 a1 (fun a => q1 (St4 a0 a1 a)) (.s1 v0 v6 v8) := by kernel_rfl
theorem lp4_eq (N : Nat) (a0 : Disk) (a1 : File) (a : A4) : (orc T (G N) live [] N 2) loop4 (K4 N (orc T (G N) live [] N 2)) (St4 a0 a1 a) = lp4 N a0 a1 a :=
  (orc_loop (b := body4) (live := [2, 3, 4, 5, 6, 7]) (by kernel_rfl)).trans (iter_eq (St4 a0 a1) _ _ (fun q1 a => by
    have hc := congrFun (congrFun (rfl : (step4 N a0 a1) = (step4 N a0 a1)) (fun a => q1 (St4 a0 a1 a))) a
    cases a with
    | s0 u0 u1 u2 => exact (body4_0 N (orc T (G N) live [] N 2) (orc T (G N) live [] N 1) q1 a0 a1 u0 u1 u2).trans hc
    | s1 u0 u1 u2 => exact (body4_1 N (orc T (G N) live [] N 2) (orc T (G N) live [] N 1) q1 a0 a1 u0 u1 u2).trans hc) N a)
theorem G_ok (N : Nat) : GamOK Try.prog (G N) := gam_ok (l := []) (trivial)
theorem snd (N : Nat) : Sound Try.prog E 150 (sp N) :=
  Mir.sound T_OK (G_ok N) mixed Try.func150 (c := code) (by kernel_rfl) (by kernel_rfl) (sp N) (Nat.le_of_ble_eq_true (by kernel_rfl)) live [] (by
    rintro ⟨a0, a1, _⟩ r h
    exact ⟨N, 2, ((run N _ a0 a1).trans (congrArg (m0 N a0 a1) (funext fun a => lp4_eq N a0 a1 a))).trans h⟩)
end spec_l03Put
end Mir.Y
