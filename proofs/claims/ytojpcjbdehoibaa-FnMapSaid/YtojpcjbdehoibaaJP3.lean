/- The models are what the functions do. -/
import Derived.Test.YtojpcjbdehoibaaJP2
namespace Mir.Y
set_option linter.unusedVariables false
set_option maxRecDepth 10000
open Go Go.Proofs Mir
namespace spec_l07Count
noncomputable def code : Code := Try.f163.body.getD .skip
abbrev live : Live := [(21, [3, 4, 11, 12, 13]), (11, [2, 3, 4, 9, 10])]
noncomputable def G (N : Nat) (slf : Branch → Int → ByteArray → Int → Option R) : Ctx E := gam [(164, [], spec_l07Leaf.sp N), (96, [], spec_l02Key.sp N), (100, [], spec_l07Hash.sp N), (210, [], spec_l01Bits.sp N), (135, [], spec_l01In.sp N), (163, [], spf slf)]
noncomputable def loop11 : Code := codeAt code [1, 1, 1, 1, 1, 0, 1, 0]
noncomputable def body11 : Code := codeAt loop11 [0]
noncomputable def loop21 : Code := codeAt code [1, 1, 1, 1, 1, 1, 1, 1, 1, 1, 0, 1, 0]
noncomputable def body21 : Code := codeAt loop21 [0]
noncomputable def K11 (N : Nat) (slf : Branch → Int → ByteArray → Int → Option R) (o0 : Orc E R) : KT E R := kAt T (G N slf) live [] o0 code [1, 1, 1, 1, 1, 0, 1, 0] (kfin T Try.f163 (spf (mb N slf)))
noncomputable def St11 (slf : Branch → Int → ByteArray → Int → Option R) (a0 : Branch) (a1 : Int) (a2 : ByteArray) (a3 : Int) : (Int × ByteArray × ByteArray × Int × (List Branch)) → St E
  | (v2, v7, v8, v9, v10) => { ρ := [(2, .c (.at (.str a2))), (3, .c (.at (.int .i64 a3))), (4, .c (.at (.ptr 0 0))), (9, .c (.at (.ptr 1 0))), (10, .c (.at (.int .i64 v2)))], H := [(0, .box 71 [.str a0.Key, .str a0.Value, .int .i64 a0.At, .ro 71 (.st 71) a0.Kids]), (1, .box 71 [.str v7, .str v8, .int .i64 v9, .ro 71 (.st 71) v10])], nx := 2, n := 141, pin := [] }
noncomputable def K21 (N : Nat) (slf : Branch → Int → ByteArray → Int → Option R) (o0 : Orc E R) : KT E R := kAt T (G N slf) live [] o0 code [1, 1, 1, 1, 1, 1, 1, 1, 1, 1, 0, 1, 0] (kfin T Try.f163 (spf (mb N slf)))
noncomputable def St21 (slf : Branch → Int → ByteArray → Int → Option R) (a0 : Branch) (a1 : Int) (a2 : ByteArray) (a3 : Int) : (ByteArray × Int × Int) → St E
  | (v1, v2, v3) => { ρ := [(3, .c (.at (.int .i64 a3))), (4, .c (.at (.ptr 0 0))), (11, .c (.at (.str v1))), (12, .c (.at (.int .i64 v2))), (13, .c (.at (.int .i64 v3)))], H := [(0, .box 71 [.str a0.Key, .str a0.Value, .int .i64 a0.At, .ro 71 (.st 71) a0.Kids])], nx := 1, n := 141, pin := [] }
noncomputable def m0 (N : Nat) (slf : Branch → Int → ByteArray → Int → Option R) (a0 : Branch) (a1 : Int) (a2 : ByteArray) (a3 : Int) (lp11 : Int × ByteArray × ByteArray × Int × (List Branch) → Option R) : Option R :=
  bif (decide (a3 < (1:Int))) then
    some (-1:Int)
  else
  ob (spec_l07Leaf.m N (Branch.mk a0.Key a0.Value a0.At a0.Kids)) fun y1 =>
  bif y1 then
    ob (spec_l02Key.m N a0.Key) fun y2 =>
    bif (!y2) then
      some (-1:Int)
    else
    bif (bif false then true else (decide ((a0.Value.size : Int) > (60:Int)))) then
      some (-1:Int)
    else
    bif (bif false then true else (a0.At != (256:Int))) then
      some (-1:Int)
    else
    ob (spec_l07Hash.m N a0.Key) fun y3 =>
    ob (spec_l01Bits.m N y3) fun y4 =>
    bif (decide (0 ≤ (a2.size : Int))) then
    bif (decide ((a2.size : Int) ≤ ((y4.size : Nat) : Int))) then
    bif (bif false then true else (!seq (y4.extract 0 (Int.toNat (a2.size : Int))) a2)) then
      some (-1:Int)
    else
    some (1:Int)
    else none
    else none
  else
  bif ((a0.Kids.length : Int) != (2:Int)) then
    some (-1:Int)
  else
  bif (bif false then true else (!seq a0.Key ByteArray.empty)) then
    some (-1:Int)
  else
  bif (bif false then true else (!seq a0.Value ByteArray.empty)) then
    some (-1:Int)
  else
  ob (spec_l01In.m N a0.At a1 (255:Int)) fun y5 =>
  bif (bif false then true else (!y5)) then
    some (-1:Int)
  else
  bif (decide (0 ≤ (0:Int))) then
  bif (decide ((0:Int) < (a0.Kids.length : Int))) then
  lp11 ((0:Int), (a0.Kids.getD 0 Branch.dz).Key, (a0.Kids.getD 0 Branch.dz).Value, (a0.Kids.getD 0 Branch.dz).At, (a0.Kids.getD 0 Branch.dz).Kids)
  else none
  else none
theorem run (N : Nat) (o0 : Orc E R) (slf : Branch → Int → ByteArray → Int → Option R) (a0 : Branch) (a1 : Int) (a2 : ByteArray) (a3 : Int) : runF T (G N slf) live [] Try.f163 code (spf (mb N slf)) o0 (a0, a1, a2, a3, ()) = m0 N slf a0 a1 a2 a3 (fun a => o0 loop11 (K11 N slf o0) (St11 slf a0 a1 a2 a3 a)) := by kernel_rfl
theorem body11_0 (N : Nat) (o0 : Orc E R) (o1 : Orc E R) (q1 : St E → Option R) (slf : Branch → Int → ByteArray → Int → Option R) (a0 : Branch) (a1 : Int) (a2 : ByteArray) (a3 : Int) (v2 : Int) (v7 : ByteArray) (v8 : ByteArray) (v9 : Int) (v10 : List Branch) : runA T (G N slf) live [] o1 body11 (St11 slf a0 a1 a2 a3 (v2, v7, v8, v9, v10)) (kloop [2, 3, 4, 9, 10] q1 (K11 N slf o0)) = step11 N slf a0 a1 a2 a3 (fun a => o0 loop21 (K21 N slf o0) (St21 slf a0 a1 a2 a3 a)) (fun a => q1 (St11 slf a0 a1 a2 a3 a)) (v2, v7, v8, v9, v10) := by kernel_rfl
theorem body21_0 (N : Nat) (o0 : Orc E R) (o1 : Orc E R) (q1 : St E → Option R) (slf : Branch → Int → ByteArray → Int → Option R) (a0 : Branch) (a1 : Int) (a2 : ByteArray) (a3 : Int) (v1 : ByteArray) (v2 : Int) (v3 : Int) : runA T (G N slf) live [] o1 body21 (St21 slf a0 a1 a2 a3 (v1, v2, v3)) (kloop [3, 4, 11, 12, 13] q1 (K21 N slf o0)) = step21 N slf a0 a1 a2 a3 (fun a => q1 (St21 slf a0 a1 a2 a3 a)) (v1, v2, v3) := by kernel_rfl
theorem lp21_eq (N : Nat) (slf : Branch → Int → ByteArray → Int → Option R) (a0 : Branch) (a1 : Int) (a2 : ByteArray) (a3 : Int) (a : ByteArray × Int × Int) : (orc T (G N slf) live [] N 2) loop21 (K21 N slf (orc T (G N slf) live [] N 2)) (St21 slf a0 a1 a2 a3 a) = lp21 N slf a0 a1 a2 a3 a :=
  (orc_loop (b := body21) (live := [3, 4, 11, 12, 13]) (by kernel_rfl)).trans (iter_eq (St21 slf a0 a1 a2 a3) _ _ (fun q1 a => by
    have hc := congrFun (congrFun (rfl : (step21 N slf a0 a1 a2 a3) = (step21 N slf a0 a1 a2 a3)) (fun a => q1 (St21 slf a0 a1 a2 a3 a))) a
    obtain ⟨u0, u1, u2⟩ := a
    exact (body21_0 N (orc T (G N slf) live [] N 2) (orc T (G N slf) live [] N 1) q1 slf a0 a1 a2 a3 u0 u1 u2).trans hc) N a)
theorem lp11_eq (N : Nat) (slf : Branch → Int → ByteArray → Int → Option R) (a0 : Branch) (a1 : Int) (a2 : ByteArray) (a3 : Int) (a : Int × ByteArray × ByteArray × Int × (List Branch)) : (orc T (G N slf) live [] N 2) loop11 (K11 N slf (orc T (G N slf) live [] N 2)) (St11 slf a0 a1 a2 a3 a) = lp11 N slf a0 a1 a2 a3 a :=
  (orc_loop (b := body11) (live := [2, 3, 4, 9, 10]) (by kernel_rfl)).trans (iter_eq (St11 slf a0 a1 a2 a3) _ _ (fun q1 a => by
    have hc := congrFun (congrFun (congrArg (step11 N slf a0 a1 a2 a3) (funext fun a => lp21_eq N slf a0 a1 a2 a3 a)) (fun a => q1 (St11 slf a0 a1 a2 a3 a))) a
    obtain ⟨u0, u1, u2, u3, u4⟩ := a
    exact (body11_0 N (orc T (G N slf) live [] N 2) (orc T (G N slf) live [] N 1) q1 slf a0 a1 a2 a3 u0 u1 u2 u3 u4).trans hc) N a)
theorem G_ok (N : Nat) (slf : Branch → Int → ByteArray → Int → Option R) (hs : Sound Try.prog E 163 (spf slf)) : GamOK Try.prog (G N slf) := gam_ok (l := [(164, [], spec_l07Leaf.sp N), (96, [], spec_l02Key.sp N), (100, [], spec_l07Hash.sp N), (210, [], spec_l01Bits.sp N), (135, [], spec_l01In.sp N), (163, [], spf slf)]) (⟨spec_l07Leaf.snd N, spec_l02Key.snd N, spec_l07Hash.snd N, spec_l01Bits.snd N, spec_l01In.snd N, hs, trivial⟩)
theorem sndF (N : Nat) : ∀ n, Sound Try.prog E 163 (spf (mF N n))
  | 0 => sound_none Try.func163 (c := code) (by kernel_rfl) (by kernel_rfl) (spf (mF N 0)) (fun _ => rfl)
  | n + 1 => by
    have hr := fun (a0 : Branch) (a1 : Int) (a2 : ByteArray) (a3 : Int) => (run N (orc T (G N (mF N n)) live [] N 2) (mF N n) a0 a1 a2 a3).trans (congrArg (m0 N (mF N n) a0 a1 a2 a3) (funext fun a => lp11_eq N (mF N n) a0 a1 a2 a3 a))
    exact Mir.sound T_OK (G_ok N (mF N n) (sndF N n)) mixed Try.func163 (c := code) (by kernel_rfl) (by kernel_rfl) (spf (mF N (n + 1))) (Nat.le_of_ble_eq_true (by kernel_rfl)) live [] (by
      rintro ⟨a0, a1, a2, a3, _⟩ r h
      exact ⟨N, 2, (hr a0 a1 a2 a3).trans h⟩)
theorem snd (N : Nat) : Sound Try.prog E 163 (sp N) := sndF N N
end spec_l07Count
namespace spec_MapOK
noncomputable def code : Code := Try.f95.body.getD .skip
abbrev live : Live := []
noncomputable def G (N : Nat) : Ctx E := gam [(162, [], spec_l07Empty.sp N), (163, [], spec_l07Count.sp N)]
noncomputable def m0 (N : Nat) (a0 : Branch) : Option R :=
  ob (spec_l07Empty.m N (Branch.mk a0.Key a0.Value a0.At a0.Kids)) fun y1 =>
  bif y1 then
    some true
  else
  ob (spec_l07Count.m N (Branch.mk a0.Key a0.Value a0.At a0.Kids) (0:Int) ByteArray.empty (40:Int)) fun y2 =>
  some (bif false then true else (decide (y2 > (0:Int))))
theorem run (N : Nat) (o0 : Orc E R) (a0 : Branch) : runF T (G N) live [] Try.f95 code (sp N) o0 (a0, ()) = m0 N a0 := by kernel_rfl
theorem G_ok (N : Nat) : GamOK Try.prog (G N) := gam_ok (l := [(162, [], spec_l07Empty.sp N), (163, [], spec_l07Count.sp N)]) (⟨spec_l07Empty.snd N, spec_l07Count.snd N, trivial⟩)
theorem snd (N : Nat) : Sound Try.prog E 95 (sp N) :=
  Mir.sound T_OK (G_ok N) mixed Try.func95 (c := code) (by kernel_rfl) (by kernel_rfl) (sp N) (Nat.le_of_ble_eq_true (by kernel_rfl)) live [] (by
    rintro ⟨a0, _⟩ r h
    exact ⟨N, 2, ((run N _ a0).trans rfl).trans h⟩)
end spec_MapOK
namespace spec_l07LeafHash
noncomputable def code : Code := Try.f186.body.getD .skip
abbrev live : Live := []
noncomputable def G (N : Nat) : Ctx E := gam [(166, [], spec_l01Hash.sp N)]
noncomputable def m0 (N : Nat) (a0 : ByteArray) (a1 : ByteArray) : Option R :=
  bif (room (([(0:Int), (wu8 (a0.size : Int))]).length + (bytesOf a0).length) 1) then
  bif (room (([(0:Int), (wu8 (a0.size : Int))] ++ (bytesOf a0)).length + (bytesOf a1).length) 1) then
  ob (spec_l01Hash.m N (([(0:Int), (wu8 (a0.size : Int))] ++ (bytesOf a0)) ++ (bytesOf a1))) fun y1 =>
  some y1
  else none
  else none
theorem run (N : Nat) (o0 : Orc E R) (a0 : ByteArray) (a1 : ByteArray) : runF T (G N) live [] Try.f186 code (sp N) o0 (a0, a1, ()) = m0 N a0 a1 := by kernel_rfl
theorem G_ok (N : Nat) : GamOK Try.prog (G N) := gam_ok (l := [(166, [], spec_l01Hash.sp N)]) (⟨spec_l01Hash.snd N, trivial⟩)
theorem snd (N : Nat) : Sound Try.prog E 186 (sp N) :=
  Mir.sound T_OK (G_ok N) mixed Try.func186 (c := code) (by kernel_rfl) (by kernel_rfl) (sp N) (Nat.le_of_ble_eq_true (by kernel_rfl)) live [] (by
    rintro ⟨a0, a1, _⟩ r h
    exact ⟨N, 2, ((run N _ a0 a1).trans rfl).trans h⟩)
end spec_l07LeafHash
namespace spec_l07ForkHash
noncomputable def code : Code := Try.f187.body.getD .skip
abbrev live : Live := []
noncomputable def G (N : Nat) : Ctx E := gam [(166, [], spec_l01Hash.sp N)]
noncomputable def m0 (N : Nat) (a0 : Int) (a1 : ByteArray) (a2 : ByteArray) : Option R :=
  bif (room (([(1:Int), (wu8 a0)]).length + (bytesOf a1).length) 1) then
  bif (room (([(1:Int), (wu8 a0)] ++ (bytesOf a1)).length + (bytesOf a2).length) 1) then
  ob (spec_l01Hash.m N (([(1:Int), (wu8 a0)] ++ (bytesOf a1)) ++ (bytesOf a2))) fun y1 =>
  some y1
  else none
  else none
theorem run (N : Nat) (o0 : Orc E R) (a0 : Int) (a1 : ByteArray) (a2 : ByteArray) : runF T (G N) live [] Try.f187 code (sp N) o0 (a0, a1, a2, ()) = m0 N a0 a1 a2 := by kernel_rfl
theorem G_ok (N : Nat) : GamOK Try.prog (G N) := gam_ok (l := [(166, [], spec_l01Hash.sp N)]) (⟨spec_l01Hash.snd N, trivial⟩)
theorem snd (N : Nat) : Sound Try.prog E 187 (sp N) :=
  Mir.sound T_OK (G_ok N) mixed Try.func187 (c := code) (by kernel_rfl) (by kernel_rfl) (sp N) (Nat.le_of_ble_eq_true (by kernel_rfl)) live [] (by
    rintro ⟨a0, a1, a2, _⟩ r h
    exact ⟨N, 2, ((run N _ a0 a1 a2).trans rfl).trans h⟩)
end spec_l07ForkHash
namespace spec_l07Root
noncomputable def code : Code := Try.f123.body.getD .skip
abbrev live : Live := []
noncomputable def G (N : Nat) (slf : Branch → Option R) : Ctx E := gam [(162, [], spec_l07Empty.sp N), (166, [], spec_l01Hash.sp N), (164, [], spec_l07Leaf.sp N), (186, [], spec_l07LeafHash.sp N), (123, [], spf slf), (187, [], spec_l07ForkHash.sp N)]
noncomputable def m0 (N : Nat) (slf : Branch → Option R) (a0 : Branch) : Option R :=
  ob (spec_l07Empty.m N (Branch.mk a0.Key a0.Value a0.At a0.Kids)) fun y1 =>
  bif y1 then
    ob (spec_l01Hash.m N ([(2:Int)])) fun y2 =>
    some y2
  else
  ob (spec_l07Leaf.m N (Branch.mk a0.Key a0.Value a0.At a0.Kids)) fun y3 =>
  bif y3 then
    ob (spec_l07LeafHash.m N a0.Key a0.Value) fun y4 =>
    some y4
  else
  bif (decide (0 ≤ (0:Int))) then
  bif (decide ((0:Int) < (a0.Kids.length : Int))) then
  ob (slf (Branch.mk ((a0.Kids.getD 0 Branch.dz).Key) ((a0.Kids.getD 0 Branch.dz).Value) ((a0.Kids.getD 0 Branch.dz).At) ((a0.Kids.getD 0 Branch.dz).Kids))) fun y5 =>
  bif (decide (0 ≤ (1:Int))) then
  bif (decide ((1:Int) < (a0.Kids.length : Int))) then
  ob (slf (Branch.mk ((a0.Kids.getD 1 Branch.dz).Key) ((a0.Kids.getD 1 Branch.dz).Value) ((a0.Kids.getD 1 Branch.dz).At) ((a0.Kids.getD 1 Branch.dz).Kids))) fun y6 =>
  ob (spec_l07ForkHash.m N a0.At y5 y6) fun y7 =>
  some y7
  else none
  else none
  else none
  else none
theorem run (N : Nat) (o0 : Orc E R) (slf : Branch → Option R) (a0 : Branch) : runF T (G N slf) live [] Try.f123 code (spf (mb N slf)) o0 (a0, ()) = m0 N slf a0 := by kernel_rfl
theorem G_ok (N : Nat) (slf : Branch → Option R) (hs : Sound Try.prog E 123 (spf slf)) : GamOK Try.prog (G N slf) := gam_ok (l := [(162, [], spec_l07Empty.sp N), (166, [], spec_l01Hash.sp N), (164, [], spec_l07Leaf.sp N), (186, [], spec_l07LeafHash.sp N), (123, [], spf slf), (187, [], spec_l07ForkHash.sp N)]) (⟨spec_l07Empty.snd N, spec_l01Hash.snd N, spec_l07Leaf.snd N, spec_l07LeafHash.snd N, hs, spec_l07ForkHash.snd N, trivial⟩)
theorem sndF (N : Nat) : ∀ n, Sound Try.prog E 123 (spf (mF N n))
  | 0 => sound_none Try.func123 (c := code) (by kernel_rfl) (by kernel_rfl) (spf (mF N 0)) (fun _ => rfl)
  | n + 1 => by
    have hr := fun (a0 : Branch) => (run N (orc T (G N (mF N n)) live [] N 2) (mF N n) a0).trans rfl
    exact Mir.sound T_OK (G_ok N (mF N n) (sndF N n)) mixed Try.func123 (c := code) (by kernel_rfl) (by kernel_rfl) (spf (mF N (n + 1))) (Nat.le_of_ble_eq_true (by kernel_rfl)) live [] (by
      rintro ⟨a0, _⟩ r h
      exact ⟨N, 2, (hr a0).trans h⟩)
theorem snd (N : Nat) : Sound Try.prog E 123 (sp N) := sndF N N
end spec_l07Root
namespace spec_MapRoot
noncomputable def code : Code := Try.f58.body.getD .skip
abbrev live : Live := []
noncomputable def G (N : Nat) : Ctx E := gam [(95, [], spec_MapOK.sp N), (123, [], spec_l07Root.sp N)]
noncomputable def m0 (N : Nat) (a0 : Branch) : Option R :=
  ob (spec_MapOK.m N (Branch.mk a0.Key a0.Value a0.At a0.Kids)) fun y1 =>
  bif (!y1) then
    some (ByteArray.empty, (1:Int))
  else
  ob (spec_l07Root.m N (Branch.mk a0.Key a0.Value a0.At a0.Kids)) fun y2 =>
  some (y2, (0:Int))
theorem run (N : Nat) (o0 : Orc E R) (a0 : Branch) : runF T (G N) live [] Try.f58 code (sp N) o0 (a0, ()) = m0 N a0 := by kernel_rfl
theorem G_ok (N : Nat) : GamOK Try.prog (G N) := gam_ok (l := [(95, [], spec_MapOK.sp N), (123, [], spec_l07Root.sp N)]) (⟨spec_MapOK.snd N, spec_l07Root.snd N, trivial⟩)
theorem snd (N : Nat) : Sound Try.prog E 58 (sp N) :=
  Mir.sound T_OK (G_ok N) mixed Try.func58 (c := code) (by kernel_rfl) (by kernel_rfl) (sp N) (Nat.le_of_ble_eq_true (by kernel_rfl)) live [] (by
    rintro ⟨a0, _⟩ r h
    exact ⟨N, 2, ((run N _ a0).trans rfl).trans h⟩)
end spec_MapRoot
namespace impl_MapList
noncomputable def code : Code := Try.f59.body.getD .skip
abbrev live : Live := [(6, [6, 17, 18, 19])]
noncomputable def G (N : Nat) : Ctx E := gam [(122, [], impl_mapPairs.sp N)]
noncomputable def loop6 : Code := codeAt code [1, 1, 1, 1, 0, 1, 0]
noncomputable def body6 : Code := codeAt loop6 [0]
noncomputable def K6 (N : Nat) (o0 : Orc E R) : KT E R := kAt T (G N) live [] o0 code [1, 1, 1, 1, 0, 1, 0] (kfin T Try.f59 (sp N))
noncomputable def St6 (a0 : Branch) : (Int × Int × (List Command) × (List pairOf)) → St E
  | (v0, v1, v2, v3) => { ρ := [(6, .c (.at (.own 0))), (17, .c (.at (.own 1))), (18, .c (.at (.int .i64 v0))), (19, .c (.at (.int .i64 v1)))], H := [(0, .row 97 (.st 97) v2 false), (1, .row 146 (.st 146) v3 false)], nx := 2, n := 33, pin := [] }
noncomputable def m0 (N : Nat) (a0 : Branch) (lp6 : Int × Int × (List Command) × (List pairOf) → Option R) : Option R :=
  ob (impl_mapPairs.m N (Branch.mk a0.Key a0.Value a0.At a0.Kids)) fun y1 =>
  bif (!y1.2) then
    some (([] : List Command), (1:Int))
  else
  lp6 ((y1.1.length : Int), (0:Int), ([] : List Command), y1.1)
theorem run (N : Nat) (o0 : Orc E R) (a0 : Branch) : runF T (G N) live [] Try.f59 code (sp N) o0 (a0, ()) = m0 N a0 (fun a => o0 loop6 (K6 N o0) (St6 a0 a)) := by kernel_rfl
theorem body6_0 (N : Nat) (o0 : Orc E R) (o1 : Orc E R) (q1 : St E → Option R) (a0 : Branch) (v0 : Int) (v1 : Int) (v2 : List Command) (v3 : List pairOf) : runA T (G N) live [] o1 body6 (St6 a0 (v0, v1, v2, v3)) (kloop [6, 17, 18, 19] q1 (K6 N o0)) = step6 N a0 (fun a => q1 (St6 a0 a)) (v0, v1, v2, v3) := by kernel_rfl
theorem lp6_eq (N : Nat) (a0 : Branch) (a : Int × Int × (List Command) × (List pairOf)) : (orc T (G N) live [] N 2) loop6 (K6 N (orc T (G N) live [] N 2)) (St6 a0 a) = lp6 N a0 a :=
  (orc_loop (b := body6) (live := [6, 17, 18, 19]) (by kernel_rfl)).trans (iter_eq (St6 a0) _ _ (fun q1 a => by
    have hc := congrFun (congrFun (rfl : (step6 N a0) = (step6 N a0)) (fun a => q1 (St6 a0 a))) a
    obtain ⟨u0, u1, u2, u3⟩ := a
    exact (body6_0 N (orc T (G N) live [] N 2) (orc T (G N) live [] N 1) q1 a0 u0 u1 u2 u3).trans hc) N a)
theorem G_ok (N : Nat) : GamOK Try.prog (G N) := gam_ok (l := [(122, [], impl_mapPairs.sp N)]) (⟨impl_mapPairs.snd N, trivial⟩)
theorem snd (N : Nat) : Sound Try.prog E 59 (sp N) :=
  Mir.sound T_OK (G_ok N) mixed Try.func59 (c := code) (by kernel_rfl) (by kernel_rfl) (sp N) (Nat.le_of_ble_eq_true (by kernel_rfl)) live [] (by
    rintro ⟨a0, _⟩ r h
    exact ⟨N, 2, ((run N _ a0).trans (congrArg (m0 N a0) (funext fun a => lp6_eq N a0 a))).trans h⟩)
end impl_MapList
namespace impl_MapGet
noncomputable def code : Code := Try.f60.body.getD .skip
abbrev live : Live := []
noncomputable def G (N : Nat) : Ctx E := gam [(102, [], impl_mapCode.sp N), (103, [], impl_pairAt.sp N)]
noncomputable def m0 (N : Nat) (a0 : Branch) (a1 : ByteArray) : Option R :=
  ob (impl_mapCode.m N (Branch.mk a0.Key a0.Value a0.At a0.Kids) a1) fun y1 =>
  bif (y1.2 != (0:Int)) then
    some (ByteArray.empty, y1.2)
  else
  ob (impl_pairAt.m N y1.1 a1) fun y2 =>
  bif (!y2.2) then
    some (ByteArray.empty, (5:Int))
  else
  bif (decide (0 ≤ y2.1)) then
  bif (decide (y2.1 < (y1.1.length : Int))) then
  some ((y1.1.getD (Int.toNat y2.1) pairOf.dz).value, (0:Int))
  else none
  else none
theorem run (N : Nat) (o0 : Orc E R) (a0 : Branch) (a1 : ByteArray) : runF T (G N) live [] Try.f60 code (sp N) o0 (a0, a1, ()) = m0 N a0 a1 := by kernel_rfl
theorem G_ok (N : Nat) : GamOK Try.prog (G N) := gam_ok (l := [(102, [], impl_mapCode.sp N), (103, [], impl_pairAt.sp N)]) (⟨impl_mapCode.snd N, impl_pairAt.snd N, trivial⟩)
theorem snd (N : Nat) : Sound Try.prog E 60 (sp N) :=
  Mir.sound T_OK (G_ok N) mixed Try.func60 (c := code) (by kernel_rfl) (by kernel_rfl) (sp N) (Nat.le_of_ble_eq_true (by kernel_rfl)) live [] (by
    rintro ⟨a0, a1, _⟩ r h
    exact ⟨N, 2, ((run N _ a0 a1).trans rfl).trans h⟩)
end impl_MapGet
namespace impl_KeyHash
noncomputable def code : Code := Try.f61.body.getD .skip
abbrev live : Live := []
noncomputable def G (N : Nat) : Ctx E := gam [(83, [], impl_isText.sp N), (124, [], impl_isKey.sp N), (114, [], impl_hash.sp N)]
noncomputable def m0 (N : Nat) (a0 : ByteArray) : Option R :=
  ob (impl_isText.m N ([a0])) fun y1 =>
  bif (!y1) then
    some (ByteArray.empty, (2:Int))
  else
  ob (impl_isKey.m N a0) fun y2 =>
  bif (!y2) then
    some (ByteArray.empty, (1:Int))
  else
  ob (impl_hash.m N a0) fun y3 =>
  some (y3, (0:Int))
theorem run (N : Nat) (o0 : Orc E R) (a0 : ByteArray) : runF T (G N) live [] Try.f61 code (sp N) o0 (a0, ()) = m0 N a0 := by kernel_rfl
theorem G_ok (N : Nat) : GamOK Try.prog (G N) := gam_ok (l := [(83, [], impl_isText.sp N), (124, [], impl_isKey.sp N), (114, [], impl_hash.sp N)]) (⟨impl_isText.snd N, impl_isKey.snd N, impl_hash.snd N, trivial⟩)
theorem snd (N : Nat) : Sound Try.prog E 61 (sp N) :=
  Mir.sound T_OK (G_ok N) mixed Try.func61 (c := code) (by kernel_rfl) (by kernel_rfl) (sp N) (Nat.le_of_ble_eq_true (by kernel_rfl)) live [] (by
    rintro ⟨a0, _⟩ r h
    exact ⟨N, 2, ((run N _ a0).trans rfl).trans h⟩)
end impl_KeyHash
namespace laws_at
noncomputable def code : Code := Try.f21.body.getD .skip
abbrev live : Live := []
noncomputable def G (N : Nat) : Ctx E := gam []
noncomputable def m0 (N : Nat) (a0 : List Int) (a1 : Int) (a2 : Int) : Option R :=
  bif (decide (a2 ≤ (1:Int))) then
    some (0:Int)
  else
  bif ((a0.length : Int) == (0:Int)) then
    bif (!decide (a2 = 0)) then
    some (Int.tmod (w64 (a1 * (7:Int))) a2)
    else none
  else
  bif (!decide ((a0.length : Int) = 0)) then
  bif (decide (0 ≤ (Int.tmod a1 (a0.length : Int)))) then
  bif (decide ((Int.tmod a1 (a0.length : Int)) < (a0.length : Int))) then
  bif (!decide ((a0.length : Int) = 0)) then
  bif (decide (0 ≤ (Int.tmod (w64 (a1 + (1:Int))) (a0.length : Int)))) then
  bif (decide ((Int.tmod (w64 (a1 + (1:Int))) (a0.length : Int)) < (a0.length : Int))) then
  (let w1 : Int := (w64 ((w64 ((w64 (a0.getD (Int.toNat (Int.tmod a1 (a0.length : Int))) (0:Int))) * (31:Int))) + (w64 (a0.getD (Int.toNat (Int.tmod (w64 (a1 + (1:Int))) (a0.length : Int))) (0:Int)))))
  bif (!decide ((a0.length : Int) = 0)) then
  bif (!decide (a2 = 0)) then
  some (Int.tmod (w64 (w1 + (w64 (Int.tdiv a1 (a0.length : Int))))) a2)
  else none
  else none)
  else none
  else none
  else none
  else none
  else none
  else none
theorem run (N : Nat) (o0 : Orc E R) (a0 : List Int) (a1 : Int) (a2 : Int) : runF T (G N) live [] Try.f21 code (sp N) o0 (a0, a1, a2, ()) = m0 N a0 a1 a2 := by kernel_rfl
theorem G_ok (N : Nat) : GamOK Try.prog (G N) := gam_ok (l := []) (trivial)
theorem snd (N : Nat) : Sound Try.prog E 21 (sp N) :=
  Mir.sound T_OK (G_ok N) mixed Try.func21 (c := code) (by kernel_rfl) (by kernel_rfl) (sp N) (Nat.le_of_ble_eq_true (by kernel_rfl)) live [] (by
    rintro ⟨a0, a1, a2, _⟩ r h
    exact ⟨N, 2, ((run N _ a0 a1 a2).trans rfl).trans h⟩)
end laws_at
namespace laws_FnMap
noncomputable def code : Code := Try.f9.body.getD .skip
abbrev live : Live := [(33, [1, 5, 10, 23, 25]), (18, [1, 5, 10, 11, 12]), (10, [0, 1, 5, 6, 7, 8, 9]), (5, [0, 1, 5, 6])]
noncomputable def G (N : Nat) : Ctx E := gam [(55, [], spec_MapKeyOf.sp N), (49, [], impl_MapPut.sp N), (56, [], impl_MapOK.sp N), (57, [], impl_MapRoot.sp N), (58, [], spec_MapRoot.sp N), (59, [], impl_MapList.sp N), (60, [], impl_MapGet.sp N), (61, [], impl_KeyHash.sp N), (21, [], laws_at.sp N)]
noncomputable def loop5 : Code := codeAt code [1, 1, 1, 0, 1, 0]
noncomputable def body5 : Code := codeAt loop5 [0]
noncomputable def loop10 : Code := codeAt body5 [1, 0, 0, 1, 1, 0, 1, 0]
noncomputable def body10 : Code := codeAt loop10 [0]
noncomputable def loop18 : Code := codeAt code [1, 1, 1, 1, 1, 1, 0, 1, 0]
noncomputable def body18 : Code := codeAt loop18 [0]
noncomputable def loop33 : Code := codeAt code [1, 1, 1, 1, 1, 1, 1, 1, 1, 1, 1, 1, 0, 1, 0]
noncomputable def body33 : Code := codeAt loop33 [0]
noncomputable def K5 (N : Nat) (o0 : Orc E R) : KT E R := kAt T (G N) live [] o0 code [1, 1, 1, 0, 1, 0] (kfin T Try.f9 (sp N))
noncomputable def St5 (a0 : List Int) (a1 : List Int) : (Int × (List ByteArray)) → St E
  | (v2, v3) => { ρ := [(0, .c (.at (.ro 5 (.int .u8) a0))), (1, .c (.at (.ro 5 (.int .u8) a1))), (5, .c (.at (.own 0))), (6, .c (.at (.int .i64 v2)))], H := [(0, .row 9 .str v3 false)], nx := 1, n := 291, pin := [] }
noncomputable def K10 (N : Nat) (o0 : Orc E R) (o1 : Orc E R) (q1 : St E → Option R) : KT E R := kAt T (G N) live [] o1 body5 [1, 0, 0, 1, 1, 0, 1, 0] (kloop [0, 1, 5, 6] q1 (K5 N o0))
noncomputable def St10 (a0 : List Int) (a1 : List Int) : A10 → St E
  | .s0 v2 v3 v4 v5 => { ρ := [(0, .c (.at (.ro 5 (.int .u8) a0))), (1, .c (.at (.ro 5 (.int .u8) a1))), (5, .c (.at (.own 0))), (6, .c (.at (.int .i64 v2))), (7, .c (.at (.str v3))), (8, .c (.at (.bool false))), (9, .c (.at (.int .i64 v4)))], H := [(0, .row 9 .str v5 false)], nx := 1, n := 291, pin := [] }
  | .s1 v2 v3 v4 v5 v6 => { ρ := [(0, .c (.at (.ro 5 (.int .u8) a0))), (1, .c (.at (.ro 5 (.int .u8) a1))), (5, .c (.at (.own 0))), (6, .c (.at (.int .i64 v2))), (7, .c (.at (.str v3))), (8, .c (.at (.bool v4))), (9, .c (.at (.int .i64 v5)))], H := [(0, .row 9 .str v6 false)], nx := 1, n := 291, pin := [] }
  | .s2 v2 v3 v4 v5 => { ρ := [(0, .c (.at (.ro 5 (.int .u8) a0))), (1, .c (.at (.ro 5 (.int .u8) a1))), (5, .c (.at (.own 0))), (6, .c (.at (.int .i64 v2))), (7, .c (.at (.str v3))), (8, .c (.at (.bool true))), (9, .c (.at (.int .i64 v4)))], H := [(0, .row 9 .str v5 false)], nx := 1, n := 291, pin := [] }
noncomputable def K18 (N : Nat) (o0 : Orc E R) : KT E R := kAt T (G N) live [] o0 code [1, 1, 1, 1, 1, 1, 0, 1, 0] (kfin T Try.f9 (sp N))
noncomputable def St18 (a0 : List Int) (a1 : List Int) : A18 → St E
  | .s0 v1 v2 v3 v4 v5 v6 v7 v8 => { ρ := [(1, .c (.at (.ro 5 (.int .u8) a1))), (5, .c (.at (.own 0))), (10, .c (.at (.ptr 1 0))), (11, .c (.at (.ptr 2 0))), (12, .c (.at (.int .i64 v1)))], H := [(0, .row 9 .str v2 false), (1, .box 71 [.str v3, .str v4, .int .i64 v5, .nils]), (2, .box 71 [.str v6, .str v7, .int .i64 v8, .nils])], nx := 3, n := 291, pin := [] }
  | .s1 v1 v2 v3 v4 v5 v6 v7 v8 v9 v10 => { ρ := [(1, .c (.at (.ro 5 (.int .u8) a1))), (5, .c (.at (.own 0))), (10, .c (.at (.ptr 1 0))), (11, .c (.at (.ptr 3 0))), (12, .c (.at (.int .i64 v1)))], H := [(0, .row 9 .str v2 false), (1, .box 71 [.str v3, .str v4, .int .i64 v5, .own 2]), (2, .row 71 (.st 71) v6 false), (3, .box 71 [.str v7, .str v8, .int .i64 v9, .own 4]), (4, .row 71 (.st 71) v10 false)], nx := 5, n := 291, pin := [] }
noncomputable def K33 (N : Nat) (o0 : Orc E R) : KT E R := kAt T (G N) live [] o0 code [1, 1, 1, 1, 1, 1, 1, 1, 1, 1, 1, 1, 0, 1, 0] (kfin T Try.f9 (sp N))
noncomputable def St33 (a0 : List Int) (a1 : List Int) : A33 → St E
  | .s0 v1 v2 v3 v4 v5 v6 => { ρ := [(1, .c (.at (.ro 5 (.int .u8) a1))), (5, .c (.at (.own 0))), (10, .c (.at (.ptr 1 0))), (23, .c (.at (.own 2))), (25, .c (.at (.int .i64 v1)))], H := [(0, .row 9 .str v2 false), (1, .box 71 [.str v3, .str v4, .int .i64 v5, .nils]), (2, .row 97 (.st 97) v6 false)], nx := 3, n := 291, pin := [] }
  | .s1 v1 v2 v3 v4 v5 v6 v7 => { ρ := [(1, .c (.at (.ro 5 (.int .u8) a1))), (5, .c (.at (.own 0))), (10, .c (.at (.ptr 1 0))), (23, .c (.at (.own 3))), (25, .c (.at (.int .i64 v1)))], H := [(0, .row 9 .str v2 false), (1, .box 71 [.str v3, .str v4, .int .i64 v5, .own 2]), (2, .row 71 (.st 71) v6 false), (3, .row 97 (.st 97) v7 false)], nx := 4, n := 291, pin := [] }
noncomputable def m0 (N : Nat) (a0 : List Int) (a1 : List Int) (lp5 : Int × (List ByteArray) → Option R) : Option R :=
  bif (decide ((a0.length : Int) > (1048576:Int))) then
    some true
  else
  bif (bif false then true else (decide ((a1.length : Int) > (1048576:Int)))) then
    some true
  else
  lp5 ((0:Int), ([] : List ByteArray))
theorem run (N : Nat) (o0 : Orc E R) (a0 : List Int) (a1 : List Int) : runF T (G N) live [] Try.f9 code (sp N) o0 (a0, a1, ()) = m0 N a0 a1 (fun a => o0 loop5 (K5 N o0) (St5 a0 a1 a)) := by kernel_rfl
theorem body5_0 (N : Nat) (o0 : Orc E R) (o1 : Orc E R) (q1 : St E → Option R) (a0 : List Int) (a1 : List Int) (v2 : Int) (v3 : List ByteArray) : runA T (G N) live [] o1 body5 (St5 a0 a1 (v2, v3)) (kloop [0, 1, 5, 6] q1 (K5 N o0)) = step5 N a0 a1 (fun a => o1 loop10 (K10 N o0 o1 q1) (St10 a0 a1 a)) (fun a => o0 loop18 (K18 N o0) (St18 a0 a1 a)) (fun a => q1 (St5 a0 a1 a)) (v2, v3) := by kernel_rfl
theorem body10_0 (N : Nat) (o0 : Orc E R) (o1 : Orc E R) (o2 : Orc E R) (q1 : St E → Option R) (q2 : St E → Option R) (a0 : List Int) (a1 : List Int) (v2 : Int) (v3 : ByteArray) (v4 : Int) (v5 : List ByteArray) : runA T (G N) live [] o2 body10 (St10 a0 a1 (.s0 v2 v3 v4 v5)) (kloop [0, 1, 5, 6, 7, 8, 9] q2 (K10 N o0 o1 q1)) = step10 N a0 a1 (fun a => q1 (St5 a0 a1 a)) (fun a => q2 (St10 a0 a1 a)) (.s0 v2 v3 v4 v5) := by kernel_rfl
theorem body10_1 (N : Nat) (o0 : Orc E R) (o1 : Orc E R) (o2 : Orc E R) (q1 : St E → Option R) (q2 : St E → Option R) (a0 : List Int) (a1 : List Int) (v2 : Int) (v3 : ByteArray) (v4 : Bool) (v5 : Int) (v6 : List ByteArray) : runA T (G N) live [] o2 body10 (St10 a0 a1 (.s1 v2 v3 v4 v5 v6)) (kloop [0, 1, 5, 6, 7, 8, 9] q2 (K10 N o0 o1 q1)) = step10 N a0 a1 (fun a => q1 (St5 a0 a1 a)) (fun a => q2 (St10 a0 a1 a)) (.s1 v2 v3 v4 v5 v6) := by kernel_rfl
theorem body10_2 (N : Nat) (o0 : Orc E R) (o1 : Orc E R) (o2 : Orc E R) (q1 : St E → Option R) (q2 : St E → Option R) (a0 : List Int) (a1 : List Int) (v2 : Int) (v3 : ByteArray) (v4 : Int) (v5 : List ByteArray) : runA T (G N) live [] o2 body10 (St10 a0 a1 (.s2 v2 v3 v4 v5)) (kloop [0, 1, 5, 6, 7, 8, 9] q2 (K10 N o0 o1 q1)) = step10 N a0 a1 (fun a => q1 (St5 a0 a1 a)) (fun a => q2 (St10 a0 a1 a)) (.s2 v2 v3 v4 v5) := by kernel_rfl
theorem body18_0 (N : Nat) (o0 : Orc E R) (o1 : Orc E R) (q1 : St E → Option R) (a0 : List Int) (a1 : List Int) (v1 : Int) (v2 : List ByteArray) (v3 : ByteArray) (v4 : ByteArray) (v5 : Int) (v6 : ByteArray) (v7 : ByteArray) (v8 : Int) : runA T (G N) live [] o1 body18 (St18 a0 a1 (.s0 v1 v2 v3 v4 v5 v6 v7 v8)) (kloop [1, 5, 10, 11, 12] q1 (K18 N o0)) = step18 N a0 a1 (fun a => o0 loop33 (K33 N o0) (St33 a0 a1 a)) (fun a => q1 (St18 a0 a1 a)) (.s0 v1 v2 v3 v4 v5 v6 v7 v8) := by kernel_rfl
theorem body18_1 (N : Nat) (o0 : Orc E R) (o1 : Orc E R) (q1 : St E → Option R) (a0 : List Int) (a1 : List Int) (v1 : Int) (v2 : List ByteArray) (v3 : ByteArray) (v4 : ByteArray) (v5 : Int) (v6 : List Branch) (v7 : ByteArray) (v8 : ByteArray) (v9 : Int) (v10 : List Branch) : runA T (G N) live [] o1 body18 (St18 a0 a1 (.s1 v1 v2 v3 v4 v5 v6 v7 v8 v9 v10)) (kloop [1, 5, 10, 11, 12] q1 (K18 N o0)) = step18 N a0 a1 (fun a => o0 loop33 (K33 N o0) (St33 a0 a1 a)) (fun a => q1 (St18 a0 a1 a)) (.s1 v1 v2 v3 v4 v5 v6 v7 v8 v9 v10) := by kernel_rfl
theorem body33_0 (N : Nat) (o0 : Orc E R) (o1 : Orc E R) (q1 : St E → Option R) (a0 : List Int) (a1 : List Int) (v1 : Int) (v2 : List ByteArray) (v3 : ByteArray) (v4 : ByteArray) (v5 : Int) (v6 : List Command) : runA T (G N) live [] o1 body33 (St33 a0 a1 (.s0 v1 v2 v3 v4 v5 v6)) (kloop [1, 5, 10, 23, 25] q1 (K33 N o0)) = step33 N a0 a1 (fun a => q1 (St33 a0 a1 a)) (.s0 v1 v2 v3 v4 v5 v6) := by kernel_rfl
theorem body33_1 (N : Nat) (o0 : Orc E R) (o1 : Orc E R) (q1 : St E → Option R) (a0 : List Int) (a1 : List Int) (v1 : Int) (v2 : List ByteArray) (v3 : ByteArray) (v4 : ByteArray) (v5 : Int) (v6 : List Branch) (v7 : List Command) : runA T (G N) live [] o1 body33 (St33 a0 a1 (.s1 v1 v2 v3 v4 v5 v6 v7)) (kloop [1, 5, 10, 23, 25] q1 (K33 N o0)) = step33 N a0 a1 (fun a => q1 (St33 a0 a1 a)) (.s1 v1 v2 v3 v4 v5 v6 v7) := by kernel_rfl
theorem lp10_eq (N : Nat) (a0 : List Int) (a1 : List Int) (q1 : St E → Option R) (a : A10) : (orc T (G N) live [] N 2) loop10 (K10 N (orc T (G N) live [] N 3) (orc T (G N) live [] N 2) q1) (St10 a0 a1 a) = lp10 N a0 a1 (fun a => q1 (St5 a0 a1 a)) a :=
  (orc_loop (b := body10) (live := [0, 1, 5, 6, 7, 8, 9]) (by kernel_rfl)).trans (iter_eq (St10 a0 a1) _ _ (fun q2 a => by
    have hc := congrFun (congrFun (congrArg (step10 N a0 a1) (Eq.refl (fun a => q1 (St5 a0 a1 a)))) (fun a => q2 (St10 a0 a1 a))) a
    cases a with
    | s0 u0 u1 u2 u3 => exact (body10_0 N (orc T (G N) live [] N 3) (orc T (G N) live [] N 2) (orc T (G N) live [] N 1) q1 q2 a0 a1 u0 u1 u2 u3).trans hc
    | s1 u0 u1 u2 u3 u4 => exact (body10_1 N (orc T (G N) live [] N 3) (orc T (G N) live [] N 2) (orc T (G N) live [] N 1) q1 q2 a0 a1 u0 u1 u2 u3 u4).trans hc
    | s2 u0 u1 u2 u3 => exact (body10_2 N (orc T (G N) live [] N 3) (orc T (G N) live [] N 2) (orc T (G N) live [] N 1) q1 q2 a0 a1 u0 u1 u2 u3).trans hc) N a)
theorem lp33_eq (N : Nat) (a0 : List Int) (a1 : List Int) (a : A33) : (orc T (G N) live [] N 3) loop33 (K33 N (orc T (G N) live [] N 3)) (St33 a0 a1 a) = lp33 N a0 a1 a :=
  (orc_loop (b := body33) (live := [1, 5, 10, 23, 25]) (by kernel_rfl)).trans (iter_eq (St33 a0 a1) _ _ (fun q1 a => by
    have hc := congrFun (congrFun (rfl : (step33 N a0 a1) = (step33 N a0 a1)) (fun a => q1 (St33 a0 a1 a))) a
    cases a with
    | s0 u0 u1 u2 u3 u4 u5 => exact (body33_0 N (orc T (G N) live [] N 3) (orc T (G N) live [] N 2) q1 a0 a1 u0 u1 u2 u3 u4 u5).trans hc
    | s1 u0 u1 u2 u3 u4 u5 u6 => exact (body33_1 N (orc T (G N) live [] N 3) (orc T (G N) live [] N 2) q1 a0 a1 u0 u1 u2 u3 u4 u5 u6).trans hc) N a)
theorem lp18_eq (N : Nat) (a0 : List Int) (a1 : List Int) (a : A18) : (orc T (G N) live [] N 3) loop18 (K18 N (orc T (G N) live [] N 3)) (St18 a0 a1 a) = lp18 N a0 a1 a :=
  (orc_loop (b := body18) (live := [1, 5, 10, 11, 12]) (by kernel_rfl)).trans (iter_eq (St18 a0 a1) _ _ (fun q1 a => by
    have hc := congrFun (congrFun (congrArg (step18 N a0 a1) (funext fun a => lp33_eq N a0 a1 a)) (fun a => q1 (St18 a0 a1 a))) a
    cases a with
    | s0 u0 u1 u2 u3 u4 u5 u6 u7 => exact (body18_0 N (orc T (G N) live [] N 3) (orc T (G N) live [] N 2) q1 a0 a1 u0 u1 u2 u3 u4 u5 u6 u7).trans hc
    | s1 u0 u1 u2 u3 u4 u5 u6 u7 u8 u9 => exact (body18_1 N (orc T (G N) live [] N 3) (orc T (G N) live [] N 2) q1 a0 a1 u0 u1 u2 u3 u4 u5 u6 u7 u8 u9).trans hc) N a)
theorem lp5_eq (N : Nat) (a0 : List Int) (a1 : List Int) (a : Int × (List ByteArray)) : (orc T (G N) live [] N 3) loop5 (K5 N (orc T (G N) live [] N 3)) (St5 a0 a1 a) = lp5 N a0 a1 a :=
  (orc_loop (b := body5) (live := [0, 1, 5, 6]) (by kernel_rfl)).trans (iter_eq (St5 a0 a1) _ _ (fun q1 a => by
    have hc := congrFun (congrFun (congr (congrArg (step5 N a0 a1) (funext fun a => lp10_eq N a0 a1 q1 a)) (funext fun a => lp18_eq N a0 a1 a)) (fun a => q1 (St5 a0 a1 a))) a
    obtain ⟨u0, u1⟩ := a
    exact (body5_0 N (orc T (G N) live [] N 3) (orc T (G N) live [] N 2) q1 a0 a1 u0 u1).trans hc) N a)
theorem G_ok (N : Nat) : GamOK Try.prog (G N) := gam_ok (l := [(55, [], spec_MapKeyOf.sp N), (49, [], impl_MapPut.sp N), (56, [], impl_MapOK.sp N), (57, [], impl_MapRoot.sp N), (58, [], spec_MapRoot.sp N), (59, [], impl_MapList.sp N), (60, [], impl_MapGet.sp N), (61, [], impl_KeyHash.sp N), (21, [], laws_at.sp N)]) (⟨spec_MapKeyOf.snd N, impl_MapPut.snd N, impl_MapOK.snd N, impl_MapRoot.snd N, spec_MapRoot.snd N, impl_MapList.snd N, impl_MapGet.snd N, impl_KeyHash.snd N, laws_at.snd N, trivial⟩)
theorem snd (N : Nat) : Sound Try.prog E 9 (sp N) :=
  Mir.sound T_OK (G_ok N) mixed Try.func9 (c := code) (by kernel_rfl) (by kernel_rfl) (sp N) (Nat.le_of_ble_eq_true (by kernel_rfl)) live [] (by
    rintro ⟨a0, a1, _⟩ r h
    exact ⟨N, 3, ((run N _ a0 a1).trans (congrArg (m0 N a0 a1) (funext fun a => lp5_eq N a0 a1 a))).trans h⟩)
end laws_FnMap
namespace spec_l00Src_size_
noncomputable def code : Code := Try.f142.body.getD .skip
abbrev live : Live := []
noncomputable def G (N : Nat) : Ctx E := gam []
noncomputable def m0 (N : Nat) (a0 : l00Src) (a1 : Int) : Option R :=
  bif (!decide ((12:Int) = 0)) then
  (let w1 : Int := (if a1 < (w64 ((1:Int) + (w64 (Int.tdiv (a0.code.length : Int) (12:Int))))) then a1 else (w64 ((1:Int) + (w64 (Int.tdiv (a0.code.length : Int) (12:Int))))))
  some w1)
  else none
theorem run (N : Nat) (o0 : Orc E R) (a0 : l00Src) (a1 : Int) : runF T (G N) live [] Try.f142 code (sp N) o0 (a0, a1, ()) = m0 N a0 a1 := by kernel_rfl
theorem G_ok (N : Nat) : GamOK Try.prog (G N) := gam_ok (l := []) (trivial)
theorem snd (N : Nat) : Sound Try.prog E 142 (sp N) :=
  Mir.sound T_OK (G_ok N) mixed Try.func142 (c := code) (by kernel_rfl) (by kernel_rfl) (sp N) (Nat.le_of_ble_eq_true (by kernel_rfl)) live [] (by
    rintro ⟨a0, a1, _⟩ r h
    exact ⟨N, 2, ((run N _ a0 a1).trans rfl).trans h⟩)
end spec_l00Src_size_
namespace spec_l07Size
noncomputable def code : Code := Try.f110.body.getD .skip
abbrev live : Live := []
noncomputable def G (N : Nat) (slf : Branch → Option R) : Ctx E := gam [(162, [], spec_l07Empty.sp N), (164, [], spec_l07Leaf.sp N), (110, [], spf slf)]
noncomputable def m0 (N : Nat) (slf : Branch → Option R) (a0 : Branch) : Option R :=
  ob (spec_l07Empty.m N (Branch.mk a0.Key a0.Value a0.At a0.Kids)) fun y1 =>
  bif y1 then
    some (0:Int)
  else
  ob (spec_l07Leaf.m N (Branch.mk a0.Key a0.Value a0.At a0.Kids)) fun y2 =>
  bif y2 then
    some (1:Int)
  else
  bif (decide (0 ≤ (0:Int))) then
  bif (decide ((0:Int) < (a0.Kids.length : Int))) then
  ob (slf (Branch.mk ((a0.Kids.getD 0 Branch.dz).Key) ((a0.Kids.getD 0 Branch.dz).Value) ((a0.Kids.getD 0 Branch.dz).At) ((a0.Kids.getD 0 Branch.dz).Kids))) fun y3 =>
  bif (decide (0 ≤ (1:Int))) then
  bif (decide ((1:Int) < (a0.Kids.length : Int))) then
  ob (slf (Branch.mk ((a0.Kids.getD 1 Branch.dz).Key) ((a0.Kids.getD 1 Branch.dz).Value) ((a0.Kids.getD 1 Branch.dz).At) ((a0.Kids.getD 1 Branch.dz).Kids))) fun y4 =>
  some (w64 (y3 + y4))
  else none
  else none
  else none
  else none
theorem run (N : Nat) (o0 : Orc E R) (slf : Branch → Option R) (a0 : Branch) : runF T (G N slf) live [] Try.f110 code (spf (mb N slf)) o0 (a0, ()) = m0 N slf a0 := by kernel_rfl
theorem G_ok (N : Nat) (slf : Branch → Option R) (hs : Sound Try.prog E 110 (spf slf)) : GamOK Try.prog (G N slf) := gam_ok (l := [(162, [], spec_l07Empty.sp N), (164, [], spec_l07Leaf.sp N), (110, [], spf slf)]) (⟨spec_l07Empty.snd N, spec_l07Leaf.snd N, hs, trivial⟩)
theorem sndF (N : Nat) : ∀ n, Sound Try.prog E 110 (spf (mF N n))
  | 0 => sound_none Try.func110 (c := code) (by kernel_rfl) (by kernel_rfl) (spf (mF N 0)) (fun _ => rfl)
  | n + 1 => by
    have hr := fun (a0 : Branch) => (run N (orc T (G N (mF N n)) live [] N 2) (mF N n) a0).trans rfl
    exact Mir.sound T_OK (G_ok N (mF N n) (sndF N n)) mixed Try.func110 (c := code) (by kernel_rfl) (by kernel_rfl) (spf (mF N (n + 1))) (Nat.le_of_ble_eq_true (by kernel_rfl)) live [] (by
      rintro ⟨a0, _⟩ r h
      exact ⟨N, 2, (hr a0).trans h⟩)
theorem snd (N : Nat) : Sound Try.prog E 110 (sp N) := sndF N N
end spec_l07Size
namespace spec_l00Src_datum
noncomputable def code : Code := Try.f188.body.getD .skip
abbrev live : Live := []
noncomputable def G (N : Nat) : Ctx E := gam [(144, [], spec_l00Src_pick_.sp N)]
noncomputable def m0 (N : Nat) (a0 : l00Src) : Option R :=
  (let w1 : List ByteArray := [ByteArray.empty, (⟨#[49]⟩ : ByteArray), (⟨#[50]⟩ : ByteArray), (⟨#[120]⟩ : ByteArray), (⟨#[108, 111, 110, 103, 101, 114, 32, 118, 97, 108, 117, 101]⟩ : ByteArray)]
  ob (spec_l00Src_pick_.m N a0 w1) fun y2 =>
  some (y2.1, y2.2))
theorem run (N : Nat) (o0 : Orc E R) (a0 : l00Src) : runF T (G N) live [] Try.f188 code (sp N) o0 (a0, ()) = m0 N a0 := by kernel_rfl
theorem G_ok (N : Nat) : GamOK Try.prog (G N) := gam_ok (l := [(144, [], spec_l00Src_pick_.sp N)]) (⟨spec_l00Src_pick_.snd N, trivial⟩)
theorem snd (N : Nat) : Sound Try.prog E 188 (sp N) :=
  Mir.sound T_OK (G_ok N) mixed Try.func188 (c := code) (by kernel_rfl) (by kernel_rfl) (sp N) (Nat.le_of_ble_eq_true (by kernel_rfl)) live [] (by
    rintro ⟨a0, _⟩ r h
    exact ⟨N, 2, ((run N _ a0).trans rfl).trans h⟩)
end spec_l00Src_datum
namespace spec_l07New
noncomputable def code : Code := Try.f171.body.getD .skip
abbrev live : Live := []
noncomputable def G (N : Nat) : Ctx E := gam []
noncomputable def m0 (N : Nat) (a0 : ByteArray) (a1 : ByteArray) : Option R :=
  some (Branch.mk a0 a1 (256:Int) ([] : List Branch))
theorem run (N : Nat) (o0 : Orc E R) (a0 : ByteArray) (a1 : ByteArray) : runF T (G N) live [] Try.f171 code (sp N) o0 (a0, a1, ()) = m0 N a0 a1 := by kernel_rfl
theorem G_ok (N : Nat) : GamOK Try.prog (G N) := gam_ok (l := []) (trivial)
theorem snd (N : Nat) : Sound Try.prog E 171 (sp N) :=
  Mir.sound T_OK (G_ok N) mixed Try.func171 (c := code) (by kernel_rfl) (by kernel_rfl) (sp N) (Nat.le_of_ble_eq_true (by kernel_rfl)) live [] (by
    rintro ⟨a0, a1, _⟩ r h
    exact ⟨N, 2, ((run N _ a0 a1).trans rfl).trans h⟩)
end spec_l07New
namespace spec_l07Bit
noncomputable def code : Code := Try.f165.body.getD .skip
abbrev live : Live := []
noncomputable def G (N : Nat) : Ctx E := gam []
noncomputable def m0 (N : Nat) (a0 : ByteArray) (a1 : Int) : Option R :=
  bif (!decide ((8:Int) = 0)) then
  bif (decide (0 ≤ (w64 (Int.tdiv a1 (8:Int))))) then
  bif (decide ((w64 (Int.tdiv a1 (8:Int))) < (a0.size : Int))) then
  bif (!decide ((8:Int) = 0)) then
  bif (!decide ((wu64 (w64 ((7:Int) - (Int.tmod a1 (8:Int))))) < 0)) then
  (let w1 : Int := (ibit .and .i64 (w64 (Int.fdiv (sb a0 (w64 (Int.tdiv a1 (8:Int)))) (2 ^ (min (Int.toNat (wu64 (w64 ((7:Int) - (Int.tmod a1 (8:Int)))))) 8)))) (1:Int))
  some w1)
  else none
  else none
  else none
  else none
  else none
theorem run (N : Nat) (o0 : Orc E R) (a0 : ByteArray) (a1 : Int) : runF T (G N) live [] Try.f165 code (sp N) o0 (a0, a1, ()) = m0 N a0 a1 := by kernel_rfl
theorem G_ok (N : Nat) : GamOK Try.prog (G N) := gam_ok (l := []) (trivial)
theorem snd (N : Nat) : Sound Try.prog E 165 (sp N) :=
  Mir.sound T_OK (G_ok N) mixed Try.func165 (c := code) (by kernel_rfl) (by kernel_rfl) (sp N) (Nat.le_of_ble_eq_true (by kernel_rfl)) live [] (by
    rintro ⟨a0, a1, _⟩ r h
    exact ⟨N, 2, ((run N _ a0 a1).trans rfl).trans h⟩)
end spec_l07Bit
namespace spec_l07Near
noncomputable def code : Code := Try.f173.body.getD .skip
abbrev live : Live := [(1, [1, 2])]
noncomputable def G (N : Nat) : Ctx E := gam [(164, [], spec_l07Leaf.sp N), (165, [], spec_l07Bit.sp N), (100, [], spec_l07Hash.sp N)]
noncomputable def loop1 : Code := codeAt code [1, 0, 0]
noncomputable def body1 : Code := codeAt loop1 [0]
noncomputable def K1 (N : Nat) (o0 : Orc E R) : KT E R := kAt T (G N) live [] o0 code [1, 0, 0] (kfin T Try.f173 (sp N))
noncomputable def St1 (a0 : Branch) (a1 : ByteArray) : (ByteArray × ByteArray × Int × (List Branch)) → St E
  | (v1, v2, v3, v4) => { ρ := [(1, .c (.at (.str a1))), (2, .c (.at (.ptr 0 0)))], H := [(0, .box 71 [.str v1, .str v2, .int .i64 v3, .ro 71 (.st 71) v4])], nx := 1, n := 19, pin := [] }
noncomputable def m0 (N : Nat) (a0 : Branch) (a1 : ByteArray) (lp1 : ByteArray × ByteArray × Int × (List Branch) → Option R) : Option R :=
  lp1 (a0.Key, a0.Value, a0.At, a0.Kids)
theorem run (N : Nat) (o0 : Orc E R) (a0 : Branch) (a1 : ByteArray) : runF T (G N) live [] Try.f173 code (sp N) o0 (a0, a1, ()) = m0 N a0 a1 (fun a => o0 loop1 (K1 N o0) (St1 a0 a1 a)) := by kernel_rfl
theorem body1_0 (N : Nat) (o0 : Orc E R) (o1 : Orc E R) (q1 : St E → Option R) (a0 : Branch) (a1 : ByteArray) (v1 : ByteArray) (v2 : ByteArray) (v3 : Int) (v4 : List Branch) : runA T (G N) live [] o1 body1 (St1 a0 a1 (v1, v2, v3, v4)) (kloop [1, 2] q1 (K1 N o0)) = step1 N a0 a1 (fun a => q1 (St1 a0 a1 a)) (v1, v2, v3, v4) := by kernel_rfl
theorem lp1_eq (N : Nat) (a0 : Branch) (a1 : ByteArray) (a : ByteArray × ByteArray × Int × (List Branch)) : (orc T (G N) live [] N 2) loop1 (K1 N (orc T (G N) live [] N 2)) (St1 a0 a1 a) = lp1 N a0 a1 a :=
  (orc_loop (b := body1) (live := [1, 2]) (by kernel_rfl)).trans (iter_eq (St1 a0 a1) _ _ (fun q1 a => by
    have hc := congrFun (congrFun (rfl : (step1 N a0 a1) = (step1 N a0 a1)) (fun a => q1 (St1 a0 a1 a))) a
    obtain ⟨u0, u1, u2, u3⟩ := a
    exact (body1_0 N (orc T (G N) live [] N 2) (orc T (G N) live [] N 1) q1 a0 a1 u0 u1 u2 u3).trans hc) N a)
theorem G_ok (N : Nat) : GamOK Try.prog (G N) := gam_ok (l := [(164, [], spec_l07Leaf.sp N), (165, [], spec_l07Bit.sp N), (100, [], spec_l07Hash.sp N)]) (⟨spec_l07Leaf.snd N, spec_l07Bit.snd N, spec_l07Hash.snd N, trivial⟩)
theorem snd (N : Nat) : Sound Try.prog E 173 (sp N) :=
  Mir.sound T_OK (G_ok N) mixed Try.func173 (c := code) (by kernel_rfl) (by kernel_rfl) (sp N) (Nat.le_of_ble_eq_true (by kernel_rfl)) live [] (by
    rintro ⟨a0, a1, _⟩ r h
    exact ⟨N, 2, ((run N _ a0 a1).trans (congrArg (m0 N a0 a1) (funext fun a => lp1_eq N a0 a1 a))).trans h⟩)
end spec_l07Near
namespace spec_l07Differ
noncomputable def code : Code := Try.f172.body.getD .skip
abbrev live : Live := [(2, [0, 1, 5])]
noncomputable def G (N : Nat) : Ctx E := gam [(165, [], spec_l07Bit.sp N)]
noncomputable def loop2 : Code := codeAt code [1, 0, 1, 0]
noncomputable def body2 : Code := codeAt loop2 [0]
noncomputable def K2 (N : Nat) (o0 : Orc E R) : KT E R := kAt T (G N) live [] o0 code [1, 0, 1, 0] (kfin T Try.f172 (sp N))
noncomputable def St2 (a0 : ByteArray) (a1 : ByteArray) : Int → St E
  | v2 => { ρ := [(0, .c (.at (.str a0))), (1, .c (.at (.str a1))), (5, .c (.at (.int .i64 v2)))], H := [], nx := 0, n := 18, pin := [] }
noncomputable def m0 (N : Nat) (a0 : ByteArray) (a1 : ByteArray) (lp2 : Int → Option R) : Option R :=
  lp2 (0:Int)
theorem run (N : Nat) (o0 : Orc E R) (a0 : ByteArray) (a1 : ByteArray) : runF T (G N) live [] Try.f172 code (sp N) o0 (a0, a1, ()) = m0 N a0 a1 (fun a => o0 loop2 (K2 N o0) (St2 a0 a1 a)) := by kernel_rfl
theorem body2_0 (N : Nat) (o0 : Orc E R) (o1 : Orc E R) (q1 : St E → Option R) (a0 : ByteArray) (a1 : ByteArray) (v2 : Int) : runA T (G N) live [] o1 body2 (St2 a0 a1 v2) (kloop [0, 1, 5] q1 (K2 N o0)) = step2 N a0 a1 (fun a => q1 (St2 a0 a1 a)) v2 := by kernel_rfl
theorem lp2_eq (N : Nat) (a0 : ByteArray) (a1 : ByteArray) (a : Int) : (orc T (G N) live [] N 2) loop2 (K2 N (orc T (G N) live [] N 2)) (St2 a0 a1 a) = lp2 N a0 a1 a :=
  (orc_loop (b := body2) (live := [0, 1, 5]) (by kernel_rfl)).trans (iter_eq (St2 a0 a1) _ _ (fun q1 a => by
    have hc := congrFun (congrFun (rfl : (step2 N a0 a1) = (step2 N a0 a1)) (fun a => q1 (St2 a0 a1 a))) a
    exact (body2_0 N (orc T (G N) live [] N 2) (orc T (G N) live [] N 1) q1 a0 a1 a).trans hc) N a)
theorem G_ok (N : Nat) : GamOK Try.prog (G N) := gam_ok (l := [(165, [], spec_l07Bit.sp N)]) (⟨spec_l07Bit.snd N, trivial⟩)
theorem snd (N : Nat) : Sound Try.prog E 172 (sp N) :=
  Mir.sound T_OK (G_ok N) mixed Try.func172 (c := code) (by kernel_rfl) (by kernel_rfl) (sp N) (Nat.le_of_ble_eq_true (by kernel_rfl)) live [] (by
    rintro ⟨a0, a1, _⟩ r h
    exact ⟨N, 2, ((run N _ a0 a1).trans (congrArg (m0 N a0 a1) (funext fun a => lp2_eq N a0 a1 a))).trans h⟩)
end spec_l07Differ
namespace spec_l07Insert
noncomputable def code : Code := Try.f174.body.getD .skip
abbrev live : Live := []
noncomputable def G (N : Nat) (slf : Branch → ByteArray → Int → Branch → Option R) : Ctx E := gam [(164, [], spec_l07Leaf.sp N), (165, [], spec_l07Bit.sp N), (174, [], spf slf)]
noncomputable def m0 (N : Nat) (slf : Branch → ByteArray → Int → Branch → Option R) (a0 : Branch) (a1 : ByteArray) (a2 : Int) (a3 : Branch) : Option R :=
  bif (a2 == (256:Int)) then
    ob (spec_l07Leaf.m N (Branch.mk a0.Key a0.Value a0.At a0.Kids)) fun y1 =>
    bif (bif true then y1 else false) then
      some (Branch.mk a3.Key a3.Value a3.At a3.Kids)
    else
    ob (spec_l07Leaf.m N (Branch.mk a0.Key a0.Value a0.At a0.Kids)) fun y2 =>
    bif y2 then
      ob (spec_l07Bit.m N a1 a2) fun y3 =>
      bif (y3 == (0:Int)) then
        some (Branch.mk ByteArray.empty ByteArray.empty a2 ([(Branch.mk a3.Key a3.Value a3.At a3.Kids), (Branch.mk a0.Key a0.Value a0.At a0.Kids)]))
      else
      some (Branch.mk ByteArray.empty ByteArray.empty a2 ([(Branch.mk a0.Key a0.Value a0.At a0.Kids), (Branch.mk a3.Key a3.Value a3.At a3.Kids)]))
    else
    bif (bif false then true else (decide (a0.At > a2))) then
      ob (spec_l07Bit.m N a1 a2) fun y4 =>
      bif (y4 == (0:Int)) then
        some (Branch.mk ByteArray.empty ByteArray.empty a2 ([(Branch.mk a3.Key a3.Value a3.At a3.Kids), (Branch.mk a0.Key a0.Value a0.At a0.Kids)]))
      else
      some (Branch.mk ByteArray.empty ByteArray.empty a2 ([(Branch.mk a0.Key a0.Value a0.At a0.Kids), (Branch.mk a3.Key a3.Value a3.At a3.Kids)]))
    else
    ob (spec_l07Bit.m N a1 a0.At) fun y5 =>
    bif (room (([] : List Branch).length + a0.Kids.length) 64) then
    bif (decide (0 ≤ y5)) then
    bif (decide (y5 < (a0.Kids.length : Int))) then
    ob (slf (Branch.mk ((a0.Kids.getD (Int.toNat y5) Branch.dz).Key) ((a0.Kids.getD (Int.toNat y5) Branch.dz).Value) ((a0.Kids.getD (Int.toNat y5) Branch.dz).At) ((a0.Kids.getD (Int.toNat y5) Branch.dz).Kids)) a1 a2 (Branch.mk a3.Key a3.Value a3.At a3.Kids)) fun y6 =>
    bif (decide (0 ≤ y5)) then
    bif (decide (y5 < ((([] : List Branch) ++ a0.Kids).length : Int))) then
    some (Branch.mk ByteArray.empty ByteArray.empty a0.At ((([] : List Branch) ++ a0.Kids).set (Int.toNat y5) (Branch.mk y6.Key y6.Value y6.At y6.Kids)))
    else none
    else none
    else none
    else none
    else none
  else
  ob (spec_l07Leaf.m N (Branch.mk a0.Key a0.Value a0.At a0.Kids)) fun y7 =>
  bif y7 then
    ob (spec_l07Bit.m N a1 a2) fun y8 =>
    bif (y8 == (0:Int)) then
      some (Branch.mk ByteArray.empty ByteArray.empty a2 ([(Branch.mk a3.Key a3.Value a3.At a3.Kids), (Branch.mk a0.Key a0.Value a0.At a0.Kids)]))
    else
    some (Branch.mk ByteArray.empty ByteArray.empty a2 ([(Branch.mk a0.Key a0.Value a0.At a0.Kids), (Branch.mk a3.Key a3.Value a3.At a3.Kids)]))
  else
  bif (bif false then true else (decide (a0.At > a2))) then
    ob (spec_l07Bit.m N a1 a2) fun y9 =>
    bif (y9 == (0:Int)) then
      some (Branch.mk ByteArray.empty ByteArray.empty a2 ([(Branch.mk a3.Key a3.Value a3.At a3.Kids), (Branch.mk a0.Key a0.Value a0.At a0.Kids)]))
    else
    some (Branch.mk ByteArray.empty ByteArray.empty a2 ([(Branch.mk a0.Key a0.Value a0.At a0.Kids), (Branch.mk a3.Key a3.Value a3.At a3.Kids)]))
  else
  ob (spec_l07Bit.m N a1 a0.At) fun y10 =>
  bif (room (([] : List Branch).length + a0.Kids.length) 64) then
  bif (decide (0 ≤ y10)) then
  bif (decide (y10 < (a0.Kids.length : Int))) then
  ob (slf (Branch.mk ((a0.Kids.getD (Int.toNat y10) Branch.dz).Key) ((a0.Kids.getD (Int.toNat y10) Branch.dz).Value) ((a0.Kids.getD (Int.toNat y10) Branch.dz).At) ((a0.Kids.getD (Int.toNat y10) Branch.dz).Kids)) a1 a2 (Branch.mk a3.Key a3.Value a3.At a3.Kids)) fun y11 =>
  bif (decide (0 ≤ y10)) then
  bif (decide (y10 < ((([] : List Branch) ++ a0.Kids).length : Int))) then
  some (Branch.mk ByteArray.empty ByteArray.empty a0.At ((([] : List Branch) ++ a0.Kids).set (Int.toNat y10) (Branch.mk y11.Key y11.Value y11.At y11.Kids)))
  else none
  else none
  else none
  else none
  else none
theorem run (N : Nat) (o0 : Orc E R) (slf : Branch → ByteArray → Int → Branch → Option R) (a0 : Branch) (a1 : ByteArray) (a2 : Int) (a3 : Branch) : runF T (G N slf) live [] Try.f174 code (spf (mb N slf)) o0 (a0, a1, a2, a3, ()) = m0 N slf a0 a1 a2 a3 := by kernel_rfl
theorem G_ok (N : Nat) (slf : Branch → ByteArray → Int → Branch → Option R) (hs : Sound Try.prog E 174 (spf slf)) : GamOK Try.prog (G N slf) := gam_ok (l := [(164, [], spec_l07Leaf.sp N), (165, [], spec_l07Bit.sp N), (174, [], spf slf)]) (⟨spec_l07Leaf.snd N, spec_l07Bit.snd N, hs, trivial⟩)
theorem sndF (N : Nat) : ∀ n, Sound Try.prog E 174 (spf (mF N n))
  | 0 => sound_none Try.func174 (c := code) (by kernel_rfl) (by kernel_rfl) (spf (mF N 0)) (fun _ => rfl)
  | n + 1 => by
    have hr := fun (a0 : Branch) (a1 : ByteArray) (a2 : Int) (a3 : Branch) => (run N (orc T (G N (mF N n)) live [] N 2) (mF N n) a0 a1 a2 a3).trans rfl
    exact Mir.sound T_OK (G_ok N (mF N n) (sndF N n)) mixed Try.func174 (c := code) (by kernel_rfl) (by kernel_rfl) (spf (mF N (n + 1))) (Nat.le_of_ble_eq_true (by kernel_rfl)) live [] (by
      rintro ⟨a0, a1, a2, a3, _⟩ r h
      exact ⟨N, 2, (hr a0 a1 a2 a3).trans h⟩)
theorem snd (N : Nat) : Sound Try.prog E 174 (sp N) := sndF N N
end spec_l07Insert
namespace spec_l07Put
noncomputable def code : Code := Try.f109.body.getD .skip
abbrev live : Live := []
noncomputable def G (N : Nat) : Ctx E := gam [(162, [], spec_l07Empty.sp N), (171, [], spec_l07New.sp N), (100, [], spec_l07Hash.sp N), (173, [], spec_l07Near.sp N), (172, [], spec_l07Differ.sp N), (174, [], spec_l07Insert.sp N)]
noncomputable def m0 (N : Nat) (a0 : Branch) (a1 : ByteArray) (a2 : ByteArray) : Option R :=
  ob (spec_l07Empty.m N (Branch.mk a0.Key a0.Value a0.At a0.Kids)) fun y1 =>
  bif y1 then
    ob (spec_l07New.m N a1 a2) fun y2 =>
    some (Branch.mk y2.Key y2.Value y2.At y2.Kids)
  else
  ob (spec_l07Hash.m N a1) fun y3 =>
  ob (spec_l07Near.m N (Branch.mk a0.Key a0.Value a0.At a0.Kids) y3) fun y4 =>
  ob (spec_l07Differ.m N y3 y4) fun y5 =>
  ob (spec_l07New.m N a1 a2) fun y6 =>
  ob (spec_l07Insert.m N (Branch.mk a0.Key a0.Value a0.At a0.Kids) y3 y5 (Branch.mk y6.Key y6.Value y6.At y6.Kids)) fun y7 =>
  some (Branch.mk y7.Key y7.Value y7.At y7.Kids)
theorem run (N : Nat) (o0 : Orc E R) (a0 : Branch) (a1 : ByteArray) (a2 : ByteArray) : runF T (G N) live [] Try.f109 code (sp N) o0 (a0, a1, a2, ()) = m0 N a0 a1 a2 := by kernel_rfl
theorem G_ok (N : Nat) : GamOK Try.prog (G N) := gam_ok (l := [(162, [], spec_l07Empty.sp N), (171, [], spec_l07New.sp N), (100, [], spec_l07Hash.sp N), (173, [], spec_l07Near.sp N), (172, [], spec_l07Differ.sp N), (174, [], spec_l07Insert.sp N)]) (⟨spec_l07Empty.snd N, spec_l07New.snd N, spec_l07Hash.snd N, spec_l07Near.snd N, spec_l07Differ.snd N, spec_l07Insert.snd N, trivial⟩)
theorem snd (N : Nat) : Sound Try.prog E 109 (sp N) :=
  Mir.sound T_OK (G_ok N) mixed Try.func109 (c := code) (by kernel_rfl) (by kernel_rfl) (sp N) (Nat.le_of_ble_eq_true (by kernel_rfl)) live [] (by
    rintro ⟨a0, a1, a2, _⟩ r h
    exact ⟨N, 2, ((run N _ a0 a1 a2).trans rfl).trans h⟩)
end spec_l07Put
namespace spec_l00Src_chance
noncomputable def code : Code := Try.f189.body.getD .skip
abbrev live : Live := []
noncomputable def G (N : Nat) : Ctx E := gam [(141, [], spec_l00Src_next_.sp N)]
noncomputable def m0 (N : Nat) (a0 : l00Src) (a1 : Int) : Option R :=
  ob (spec_l00Src_next_.m N a0 a1) fun y1 =>
  some ((y1.1 == (w64 (a1 - (1:Int)))), y1.2)
theorem run (N : Nat) (o0 : Orc E R) (a0 : l00Src) (a1 : Int) : runF T (G N) live [] Try.f189 code (sp N) o0 (a0, a1, ()) = m0 N a0 a1 := by kernel_rfl
theorem G_ok (N : Nat) : GamOK Try.prog (G N) := gam_ok (l := [(141, [], spec_l00Src_next_.sp N)]) (⟨spec_l00Src_next_.snd N, trivial⟩)
theorem snd (N : Nat) : Sound Try.prog E 189 (sp N) :=
  Mir.sound T_OK (G_ok N) mixed Try.func189 (c := code) (by kernel_rfl) (by kernel_rfl) (sp N) (Nat.le_of_ble_eq_true (by kernel_rfl)) live [] (by
    rintro ⟨a0, a1, _⟩ r h
    exact ⟨N, 2, ((run N _ a0 a1).trans rfl).trans h⟩)
end spec_l00Src_chance
namespace spec_l07Own
noncomputable def code : Code := Try.f98.body.getD .skip
abbrev live : Live := [(3, [1, 2, 3, 4])]
noncomputable def G (N : Nat) (slf : Branch → Option R) : Ctx E := gam [(98, [], spf slf)]
noncomputable def loop3 : Code := codeAt code [1, 1, 0, 1, 0]
noncomputable def body3 : Code := codeAt loop3 [0]
noncomputable def K3 (N : Nat) (slf : Branch → Option R) (o0 : Orc E R) : KT E R := kAt T (G N slf) live [] o0 code [1, 1, 0, 1, 0] (kfin T Try.f98 (spf (mb N slf)))
noncomputable def St3 (slf : Branch → Option R) (a0 : Branch) : A3 → St E
  | .s0 v0 v5 v6 v7 => { ρ := [(1, .c (.at (.ptr 0 0))), (2, .c (.at (.ptr 1 0))), (3, .c (.at (.ptr 2 0))), (4, .c (.at (.int .i64 v0)))], H := [(0, .box 71 [.str a0.Key, .str a0.Value, .int .i64 a0.At, .ro 71 (.st 71) a0.Kids]), (1, .box 71 [.str v5, .str v6, .int .i64 v7, .nils]), (2, .box 71 [.str a0.Key, .str a0.Value, .int .i64 a0.At, .nils])], nx := 3, n := 31, pin := [] }
  | .s1 v0 v5 v6 v7 v11 => { ρ := [(1, .c (.at (.ptr 0 0))), (2, .c (.at (.ptr 1 0))), (3, .c (.at (.ptr 2 0))), (4, .c (.at (.int .i64 v0)))], H := [(0, .box 71 [.str a0.Key, .str a0.Value, .int .i64 a0.At, .ro 71 (.st 71) a0.Kids]), (1, .box 71 [.str v5, .str v6, .int .i64 v7, .nils]), (2, .box 71 [.str a0.Key, .str a0.Value, .int .i64 a0.At, .own 3]), (3, .row 71 (.st 71) v11 false)], nx := 4, n := 31, pin := [] }
noncomputable def m0 (N : Nat) (slf : Branch → Option R) (a0 : Branch) (lp3 : A3 → Option R) : Option R :=
  lp3 (.s0 (0:Int) ByteArray.empty ByteArray.empty (0:Int))
theorem run (N : Nat) (o0 : Orc E R) (slf : Branch → Option R) (a0 : Branch) : runF T (G N slf) live [] Try.f98 code (spf (mb N slf)) o0 (a0, ()) = m0 N slf a0 (fun a => o0 loop3 (K3 N slf o0) (St3 slf a0 a)) := by kernel_rfl
theorem body3_0 (N : Nat) (o0 : Orc E R) (o1 : Orc E R) (q1 : St E → Option R) (slf : Branch → Option R) (a0 : Branch) (v0 : Int) (v5 : ByteArray) (v6 : ByteArray) (v7 : Int) : runA T (G N slf) live [] o1 body3 (St3 slf a0 (.s0 v0 v5 v6 v7)) (kloop [1, 2, 3, 4] q1 (K3 N slf o0)) = step3 N slf a0 (fun a => q1 (St3 slf a0 a)) (.s0 v0 v5 v6 v7) := by kernel_rfl
theorem body3_1 (N : Nat) (o0 : Orc E R) (o1 : Orc E R) (q1 : St E → Option R) (slf : Branch → Option R) (a0 : Branch) (v0 : Int) (v5 : ByteArray) (v6 : ByteArray) (v7 : Int) (v11 : List Branch) : runA T (G N slf) live [] o1 body3 (St3 slf a0 (.s1 v0 v5 v6 v7 v11)) (kloop [1, 2, 3, 4] q1 (K3 N slf o0)) = step3 N slf a0 (fun a => q1 (St3 slf a0 a)) (.s1 v0 v5 v6 v7 v11) := by kernel_rfl
theorem lp3_eq (N : Nat) (slf : Branch → Option R) (a0 : Branch) (a : A3) : (orc T (G N slf) live [] N 2) loop3 (K3 N slf (orc T (G N slf) live [] N 2)) (St3 slf a0 a) = lp3 N slf a0 a :=
  (orc_loop (b := body3) (live := [1, 2, 3, 4]) (by kernel_rfl)).trans (iter_eq (St3 slf a0) _ _ (fun q1 a => by
    have hc := congrFun (congrFun (rfl : (step3 N slf a0) = (step3 N slf a0)) (fun a => q1 (St3 slf a0 a))) a
    cases a with
    | s0 u0 u1 u2 u3 => exact (body3_0 N (orc T (G N slf) live [] N 2) (orc T (G N slf) live [] N 1) q1 slf a0 u0 u1 u2 u3).trans hc
    | s1 u0 u1 u2 u3 u4 => exact (body3_1 N (orc T (G N slf) live [] N 2) (orc T (G N slf) live [] N 1) q1 slf a0 u0 u1 u2 u3 u4).trans hc) N a)
theorem G_ok (N : Nat) (slf : Branch → Option R) (hs : Sound Try.prog E 98 (spf slf)) : GamOK Try.prog (G N slf) := gam_ok (l := [(98, [], spf slf)]) (⟨hs, trivial⟩)
theorem sndF (N : Nat) : ∀ n, Sound Try.prog E 98 (spf (mF N n))
  | 0 => sound_none Try.func98 (c := code) (by kernel_rfl) (by kernel_rfl) (spf (mF N 0)) (fun _ => rfl)
  | n + 1 => by
    have hr := fun (a0 : Branch) => (run N (orc T (G N (mF N n)) live [] N 2) (mF N n) a0).trans (congrArg (m0 N (mF N n) a0) (funext fun a => lp3_eq N (mF N n) a0 a))
    exact Mir.sound T_OK (G_ok N (mF N n) (sndF N n)) mixed Try.func98 (c := code) (by kernel_rfl) (by kernel_rfl) (spf (mF N (n + 1))) (Nat.le_of_ble_eq_true (by kernel_rfl)) live [] (by
      rintro ⟨a0, _⟩ r h
      exact ⟨N, 2, (hr a0).trans h⟩)
theorem snd (N : Nat) : Sound Try.prog E 98 (sp N) := sndF N N
end spec_l07Own
end Mir.Y
