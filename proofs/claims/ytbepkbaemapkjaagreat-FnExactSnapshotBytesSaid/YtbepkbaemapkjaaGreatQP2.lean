/- The models are what the functions do. -/
import Derived.Test.YtbepkbaemapkjaaGreatQP1
import Derived.Test.YtbepkbaemapkjaaGreatQLays
namespace Mir.Y
set_option linter.unusedVariables false
set_option maxRecDepth 10000
open Go Go.Proofs Mir
namespace spec_l07Count
noncomputable def code : Code := Tryz.f165.body.getD .skip
abbrev live : Live := [(21, [3, 4, 11, 12, 13]), (11, [2, 3, 4, 9, 10])]
noncomputable def G (N : Nat) (slf : Branch → Int → ByteArray → Int → Option R) : Ctx E := gam [(182, [], spec_l07Leaf.sp N), (95, [], spec_l02Key.sp N), (158, [], spec_l07Hash.sp N), (217, [], spec_l01Bits.sp N), (94, [], spec_l01In.sp N), (165, [], spf slf)]
noncomputable def loop11 : Code := codeAt code [1, 1, 1, 1, 1, 0, 1, 0]
noncomputable def body11 : Code := codeAt loop11 [0]
noncomputable def loop21 : Code := codeAt code [1, 1, 1, 1, 1, 1, 1, 1, 1, 1, 0, 1, 0]
noncomputable def body21 : Code := codeAt loop21 [0]
noncomputable def K11 (N : Nat) (slf : Branch → Int → ByteArray → Int → Option R) (o0 : Orc E R) : KT E R := kAt T (G N slf) live [] o0 code [1, 1, 1, 1, 1, 0, 1, 0] (kfin T Tryz.f165 (spf (mb N slf)))
noncomputable def St11 (slf : Branch → Int → ByteArray → Int → Option R) (a0 : Branch) (a1 : Int) (a2 : ByteArray) (a3 : Int) : (Int × ByteArray × ByteArray × Int × (List Branch)) → St E
  | (v2, v7, v8, v9, v10) => { ρ := [(2, .c (.at (.str a2))), (3, .c (.at (.int .i64 a3))), (4, .c (.at (.ptr 0 0))), (9, .c (.at (.ptr 1 0))), (10, .c (.at (.int .i64 v2)))], H := [(0, .box 27 [.str a0.Key, .str a0.Value, .int .i64 a0.At, .ro 27 (.st 27) a0.Kids]), (1, .box 27 [.str v7, .str v8, .int .i64 v9, .ro 27 (.st 27) v10])], nx := 2, n := 141, pin := [] }
noncomputable def K21 (N : Nat) (slf : Branch → Int → ByteArray → Int → Option R) (o0 : Orc E R) : KT E R := kAt T (G N slf) live [] o0 code [1, 1, 1, 1, 1, 1, 1, 1, 1, 1, 0, 1, 0] (kfin T Tryz.f165 (spf (mb N slf)))
noncomputable def St21 (slf : Branch → Int → ByteArray → Int → Option R) (a0 : Branch) (a1 : Int) (a2 : ByteArray) (a3 : Int) : (ByteArray × Int × Int) → St E
  | (v1, v2, v3) => { ρ := [(3, .c (.at (.int .i64 a3))), (4, .c (.at (.ptr 0 0))), (11, .c (.at (.str v1))), (12, .c (.at (.int .i64 v2))), (13, .c (.at (.int .i64 v3)))], H := [(0, .box 27 [.str a0.Key, .str a0.Value, .int .i64 a0.At, .ro 27 (.st 27) a0.Kids])], nx := 1, n := 141, pin := [] }
noncomputable def m0 (N : Nat) (slf : Branch → Int → ByteArray → Int → Option R) (a0 : Branch) (a1 : Int) (a2 : ByteArray) (a3 : Int) (lp11 : Int × ByteArray × ByteArray × Int × (List Branch) → Option R) : Option R :=
  bif (decide (a3 < (1:Int))) then
    some (-1:Int)
  else
  ob (spec_l07Leaf.m N (Branch.mk a0.Key a0.Value a0.At a0.Kids)) fun y1 =>
  bif y1 then
    ob (spec_l02Key.m N a0.Key) fun y2 =>
    bif (!y2) then
      some (-1:Int)
    else
    bif (bif false then true else (decide ((a0.Value.size : Int) > (60:Int)))) then
      some (-1:Int)
    else
    bif (bif false then true else (a0.At != (256:Int))) then
      some (-1:Int)
    else
    ob (spec_l07Hash.m N a0.Key) fun y3 =>
    ob (spec_l01Bits.m N y3) fun y4 =>
    bif (decide (0 ≤ (a2.size : Int))) then
    bif (decide ((a2.size : Int) ≤ ((y4.size : Nat) : Int))) then
    bif (bif false then true else (!seq (y4.extract 0 (Int.toNat (a2.size : Int))) a2)) then
      some (-1:Int)
    else
    some (1:Int)
    else none
    else none
  else
  bif ((a0.Kids.length : Int) != (2:Int)) then
    some (-1:Int)
  else
  bif (bif false then true else (!seq a0.Key ByteArray.empty)) then
    some (-1:Int)
  else
  bif (bif false then true else (!seq a0.Value ByteArray.empty)) then
    some (-1:Int)
  else
  ob (spec_l01In.m N a0.At a1 (255:Int)) fun y5 =>
  bif (bif false then true else (!y5)) then
    some (-1:Int)
  else
  bif (decide (0 ≤ (0:Int))) then
  bif (decide ((0:Int) < (a0.Kids.length : Int))) then
  lp11 ((0:Int), (a0.Kids.getD 0 Branch.dz).Key, (a0.Kids.getD 0 Branch.dz).Value, (a0.Kids.getD 0 Branch.dz).At, (a0.Kids.getD 0 Branch.dz).Kids)
  else none
  else none
theorem run (N : Nat) (o0 : Orc E R) (slf : Branch → Int → ByteArray → Int → Option R) (a0 : Branch) (a1 : Int) (a2 : ByteArray) (a3 : Int) : runF T (G N slf) live [] Tryz.f165 code (spf (mb N slf)) o0 (a0, a1, a2, a3, ()) = m0 N slf a0 a1 a2 a3 (fun a => o0 loop11 (K11 N slf o0) (St11 slf a0 a1 a2 a3 a)) := by kernel_rfl
theorem body11_0 (N : Nat) (o0 : Orc E R) (o1 : Orc E R) (q1 : St E → Option R) (slf : Branch → Int → ByteArray → Int → Option R) (a0 : Branch) (a1 : Int) (a2 : ByteArray) (a3 : Int) (v2 : Int) (v7 : ByteArray) (v8 : ByteArray) (v9 : Int) (v10 : List Branch) : runA T (G N slf) live [] o1 body11 (St11 slf a0 a1 a2 a3 (v2, v7, v8, v9, v10)) (kloop [2, 3, 4, 9, 10] q1 (K11 N slf o0)) = step11 N slf a0 a1 a2 a3 (fun a => o0 loop21 (K21 N slf o0) (St21 slf a0 a1 a2 a3 a)) (fun a => q1 (St11 slf a0 a1 a2 a3 a)) (v2, v7, v8, v9, v10) := by kernel_rfl
theorem body21_0 (N : Nat) (o0 : Orc E R) (o1 : Orc E R) (q1 : St E → Option R) (slf : Branch → Int → ByteArray → Int → Option R) (a0 : Branch) (a1 : Int) (a2 : ByteArray) (a3 : Int) (v1 : ByteArray) (v2 : Int) (v3 : Int) : runA T (G N slf) live [] o1 body21 (St21 slf a0 a1 a2 a3 (v1, v2, v3)) (kloop [3, 4, 11, 12, 13] q1 (K21 N slf o0)) = step21 N slf a0 a1 a2 a3 (fun a => q1 (St21 slf a0 a1 a2 a3 a)) (v1, v2, v3) := by kernel_rfl
theorem lp21_eq (N : Nat) (slf : Branch → Int → ByteArray → Int → Option R) (a0 : Branch) (a1 : Int) (a2 : ByteArray) (a3 : Int) (a : ByteArray × Int × Int) : (orc T (G N slf) live [] N 2) loop21 (K21 N slf (orc T (G N slf) live [] N 2)) (St21 slf a0 a1 a2 a3 a) = lp21 N slf a0 a1 a2 a3 a :=
  (orc_loop (b := body21) (live := [3, 4, 11, 12, 13]) (by kernel_rfl)).trans (iter_eq (St21 slf a0 a1 a2 a3) _ _ (fun q1 a => by
    have hc := congrFun (congrFun (rfl : (step21 N slf a0 a1 a2 a3) = (step21 N slf a0 a1 a2 a3)) (fun a => q1 (St21 slf a0 a1 a2 a3 a))) a
    obtain ⟨u0, u1, u2⟩ := a
    exact (body21_0 N (orc T (G N slf) live [] N 2) (orc T (G N slf) live [] N 1) q1 slf a0 a1 a2 a3 u0 u1 u2).trans hc) N a)
theorem lp11_eq (N : Nat) (slf : Branch → Int → ByteArray → Int → Option R) (a0 : Branch) (a1 : Int) (a2 : ByteArray) (a3 : Int) (a : Int × ByteArray × ByteArray × Int × (List Branch)) : (orc T (G N slf) live [] N 2) loop11 (K11 N slf (orc T (G N slf) live [] N 2)) (St11 slf a0 a1 a2 a3 a) = lp11 N slf a0 a1 a2 a3 a :=
  (orc_loop (b := body11) (live := [2, 3, 4, 9, 10]) (by kernel_rfl)).trans (iter_eq (St11 slf a0 a1 a2 a3) _ _ (fun q1 a => by
    have hc := congrFun (congrFun (congrArg (step11 N slf a0 a1 a2 a3) (funext fun a => lp21_eq N slf a0 a1 a2 a3 a)) (fun a => q1 (St11 slf a0 a1 a2 a3 a))) a
    obtain ⟨u0, u1, u2, u3, u4⟩ := a
    exact (body11_0 N (orc T (G N slf) live [] N 2) (orc T (G N slf) live [] N 1) q1 slf a0 a1 a2 a3 u0 u1 u2 u3 u4).trans hc) N a)
theorem G_ok (N : Nat) (slf : Branch → Int → ByteArray → Int → Option R) (hs : Sound Tryz.prog E 165 (spf slf)) : GamOK Tryz.prog (G N slf) := gam_ok (l := [(182, [], spec_l07Leaf.sp N), (95, [], spec_l02Key.sp N), (158, [], spec_l07Hash.sp N), (217, [], spec_l01Bits.sp N), (94, [], spec_l01In.sp N), (165, [], spf slf)]) (⟨spec_l07Leaf.snd N, spec_l02Key.snd N, spec_l07Hash.snd N, spec_l01Bits.snd N, spec_l01In.snd N, hs, trivial⟩)
theorem sndF (N : Nat) : ∀ n, Sound Tryz.prog E 165 (spf (mF N n))
  | 0 => sound_none Tryz.func165 (c := code) (by kernel_rfl) (by kernel_rfl) (spf (mF N 0)) (fun _ => rfl)
  | n + 1 => by
    have hr := fun (a0 : Branch) (a1 : Int) (a2 : ByteArray) (a3 : Int) => (run N (orc T (G N (mF N n)) live [] N 2) (mF N n) a0 a1 a2 a3).trans (congrArg (m0 N (mF N n) a0 a1 a2 a3) (funext fun a => lp11_eq N (mF N n) a0 a1 a2 a3 a))
    exact Mir.sound T_OK (G_ok N (mF N n) (sndF N n)) mixed Tryz.func165 (c := code) (by kernel_rfl) (by kernel_rfl) (spf (mF N (n + 1))) (Nat.le_of_ble_eq_true (by kernel_rfl)) live [] (by
      rintro ⟨a0, a1, a2, a3, _⟩ r h
      exact ⟨N, 2, (hr a0 a1 a2 a3).trans h⟩)
theorem snd (N : Nat) : Sound Tryz.prog E 165 (sp N) := sndF N N
end spec_l07Count
namespace spec_MapOK
noncomputable def code : Code := Tryz.f110.body.getD .skip
abbrev live : Live := []
noncomputable def G (N : Nat) : Ctx E := gam [(164, [], spec_l07Empty.sp N), (165, [], spec_l07Count.sp N)]
noncomputable def m0 (N : Nat) (a0 : Branch) : Option R :=
  ob (spec_l07Empty.m N (Branch.mk a0.Key a0.Value a0.At a0.Kids)) fun y1 =>
  bif y1 then
    some true
  else
  ob (spec_l07Count.m N (Branch.mk a0.Key a0.Value a0.At a0.Kids) (0:Int) ByteArray.empty (40:Int)) fun y2 =>
  some (bif false then true else (decide (y2 > (0:Int))))
theorem run (N : Nat) (o0 : Orc E R) (a0 : Branch) : runF T (G N) live [] Tryz.f110 code (sp N) o0 (a0, ()) = m0 N a0 := by kernel_rfl
theorem G_ok (N : Nat) : GamOK Tryz.prog (G N) := gam_ok (l := [(164, [], spec_l07Empty.sp N), (165, [], spec_l07Count.sp N)]) (⟨spec_l07Empty.snd N, spec_l07Count.snd N, trivial⟩)
theorem snd (N : Nat) : Sound Tryz.prog E 110 (sp N) :=
  Mir.sound T_OK (G_ok N) mixed Tryz.func110 (c := code) (by kernel_rfl) (by kernel_rfl) (sp N) (Nat.le_of_ble_eq_true (by kernel_rfl)) live [] (by
    rintro ⟨a0, _⟩ r h
    exact ⟨N, 2, ((run N _ a0).trans rfl).trans h⟩)
end spec_MapOK
namespace spec_LedgerOK
noncomputable def code : Code := Tryz.f66.body.getD .skip
abbrev live : Live := [(4, [1, 3])]
noncomputable def G (N : Nat) : Ctx E := gam [(109, [], spec_l06Hashes.sp N), (110, [], spec_MapOK.sp N), (94, [], spec_l01In.sp N)]
noncomputable def loop4 : Code := codeAt code [1, 1, 0, 1, 0]
noncomputable def body4 : Code := codeAt loop4 [0]
noncomputable def K4 (N : Nat) (o0 : Orc E R) : KT E R := kAt T (G N) live [] o0 code [1, 1, 0, 1, 0] (kfin T Tryz.f66 (sp N))
noncomputable def St4 (a0 : Ledger) : Int → St E
  | v0 => { ρ := [(1, .c (.at (.ptr 0 0))), (3, .c (.at (.int .i64 v0)))], H := [(0, .box 30 [.ro 9 .str a0.Leaves, .str a0.Map.Key, .str a0.Map.Value, .int .i64 a0.Map.At, .ro 27 (.st 27) a0.Map.Kids, .ro 131 (.st 131) a0.Sessions])], nx := 1, n := 86, pin := [] }
noncomputable def m0 (N : Nat) (a0 : Ledger) (lp4 : Int → Option R) : Option R :=
  bif (decide ((a0.Leaves.length : Int) > (50:Int))) then
    some false
  else
  ob (spec_l06Hashes.m N a0.Leaves) fun y1 =>
  bif (bif false then true else (!y1)) then
    some false
  else
  ob (spec_MapOK.m N (Branch.mk a0.Map.Key a0.Map.Value a0.Map.At a0.Map.Kids)) fun y2 =>
  bif (bif false then true else (!y2)) then
    some false
  else
  bif (bif false then true else (decide ((a0.Sessions.length : Int) > (8:Int)))) then
    some false
  else
  lp4 (0:Int)
theorem run (N : Nat) (o0 : Orc E R) (a0 : Ledger) : runF T (G N) live [] Tryz.f66 code (sp N) o0 (a0, ()) = m0 N a0 (fun a => o0 loop4 (K4 N o0) (St4 a0 a)) := by kernel_rfl
theorem body4_0 (N : Nat) (o0 : Orc E R) (o1 : Orc E R) (q1 : St E → Option R) (a0 : Ledger) (v0 : Int) : runA T (G N) live [] o1 body4 (St4 a0 v0) (kloop [1, 3] q1 (K4 N o0)) = step4 N a0 (fun a => q1 (St4 a0 a)) v0 := by kernel_rfl
theorem lp4_eq (N : Nat) (a0 : Ledger) (a : Int) : (orc T (G N) live [] N 2) loop4 (K4 N (orc T (G N) live [] N 2)) (St4 a0 a) = lp4 N a0 a :=
  (orc_loop (b := body4) (live := [1, 3]) (by kernel_rfl)).trans (iter_eq (St4 a0) _ _ (fun q1 a => by
    have hc := congrFun (congrFun (rfl : (step4 N a0) = (step4 N a0)) (fun a => q1 (St4 a0 a))) a
    exact (body4_0 N (orc T (G N) live [] N 2) (orc T (G N) live [] N 1) q1 a0 a).trans hc) N a)
theorem G_ok (N : Nat) : GamOK Tryz.prog (G N) := gam_ok (l := [(109, [], spec_l06Hashes.sp N), (110, [], spec_MapOK.sp N), (94, [], spec_l01In.sp N)]) (⟨spec_l06Hashes.snd N, spec_MapOK.snd N, spec_l01In.snd N, trivial⟩)
theorem snd (N : Nat) : Sound Tryz.prog E 66 (sp N) :=
  Mir.sound T_OK (G_ok N) mixed Tryz.func66 (c := code) (by kernel_rfl) (by kernel_rfl) (sp N) (Nat.le_of_ble_eq_true (by kernel_rfl)) live [] (by
    rintro ⟨a0, _⟩ r h
    exact ⟨N, 2, ((run N _ a0).trans (congrArg (m0 N a0) (funext fun a => lp4_eq N a0 a))).trans h⟩)
end spec_LedgerOK
namespace spec_l07List
noncomputable def code : Code := Tryz.f123.body.getD .skip
abbrev live : Live := []
noncomputable def G (N : Nat) (slf : Branch → (List Command) → Option R) : Ctx E := gam [(164, [], spec_l07Empty.sp N), (182, [], spec_l07Leaf.sp N), (123, [], spf slf)]
noncomputable def m0 (N : Nat) (slf : Branch → (List Command) → Option R) (a0 : Branch) (a1 : List Command) : Option R :=
  ob (spec_l07Empty.m N (Branch.mk a0.Key a0.Value a0.At a0.Kids)) fun y1 =>
  bif y1 then
    some a1
  else
  ob (spec_l07Leaf.m N (Branch.mk a0.Key a0.Value a0.At a0.Kids)) fun y2 =>
  bif y2 then
    bif (room (a1.length + ([(Command.mk (1:Int) (0:Int) (0:Int) a0.Key a0.Value)]).length) 56) then
    some (a1 ++ [(Command.mk (1:Int) (0:Int) (0:Int) a0.Key a0.Value)])
    else none
  else
  bif (decide (0 ≤ (1:Int))) then
  bif (decide ((1:Int) < (a0.Kids.length : Int))) then
  bif (decide (0 ≤ (0:Int))) then
  bif (decide ((0:Int) < (a0.Kids.length : Int))) then
  ob (slf (Branch.mk ((a0.Kids.getD 0 Branch.dz).Key) ((a0.Kids.getD 0 Branch.dz).Value) ((a0.Kids.getD 0 Branch.dz).At) ((a0.Kids.getD 0 Branch.dz).Kids)) a1) fun y3 =>
  ob (slf (Branch.mk ((a0.Kids.getD 1 Branch.dz).Key) ((a0.Kids.getD 1 Branch.dz).Value) ((a0.Kids.getD 1 Branch.dz).At) ((a0.Kids.getD 1 Branch.dz).Kids)) y3) fun y4 =>
  some y4
  else none
  else none
  else none
  else none
theorem run (N : Nat) (o0 : Orc E R) (slf : Branch → (List Command) → Option R) (a0 : Branch) (a1 : List Command) : runF T (G N slf) live [] Tryz.f123 code (spf (mb N slf)) o0 (a0, a1, ()) = m0 N slf a0 a1 := by kernel_rfl
theorem G_ok (N : Nat) (slf : Branch → (List Command) → Option R) (hs : Sound Tryz.prog E 123 (spf slf)) : GamOK Tryz.prog (G N slf) := gam_ok (l := [(164, [], spec_l07Empty.sp N), (182, [], spec_l07Leaf.sp N), (123, [], spf slf)]) (⟨spec_l07Empty.snd N, spec_l07Leaf.snd N, hs, trivial⟩)
theorem sndF (N : Nat) : ∀ n, Sound Tryz.prog E 123 (spf (mF N n))
  | 0 => sound_none Tryz.func123 (c := code) (by kernel_rfl) (by kernel_rfl) (spf (mF N 0)) (fun _ => rfl)
  | n + 1 => by
    have hr := fun (a0 : Branch) (a1 : List Command) => (run N (orc T (G N (mF N n)) live [] N 2) (mF N n) a0 a1).trans rfl
    exact Mir.sound T_OK (G_ok N (mF N n) (sndF N n)) mixed Tryz.func123 (c := code) (by kernel_rfl) (by kernel_rfl) (spf (mF N (n + 1))) (Nat.le_of_ble_eq_true (by kernel_rfl)) live [] (by
      rintro ⟨a0, a1, _⟩ r h
      exact ⟨N, 2, (hr a0 a1).trans h⟩)
theorem snd (N : Nat) : Sound Tryz.prog E 123 (sp N) := sndF N N
end spec_l07List
namespace spec_l02Two
noncomputable def code : Code := Tryz.f124.body.getD .skip
abbrev live : Live := []
noncomputable def G (N : Nat) : Ctx E := gam []
noncomputable def m0 (N : Nat) (a0 : Int) : Option R :=
  bif (!decide ((256:Int) = 0)) then
  some ([(wu8 (w64 (Int.tdiv a0 (256:Int)))), (wu8 a0)])
  else none
theorem run (N : Nat) (o0 : Orc E R) (a0 : Int) : runF T (G N) live [] Tryz.f124 code (sp N) o0 (a0, ()) = m0 N a0 := by kernel_rfl
theorem G_ok (N : Nat) : GamOK Tryz.prog (G N) := gam_ok (l := []) (trivial)
theorem snd (N : Nat) : Sound Tryz.prog E 124 (sp N) :=
  Mir.sound T_OK (G_ok N) mixed Tryz.func124 (c := code) (by kernel_rfl) (by kernel_rfl) (sp N) (Nat.le_of_ble_eq_true (by kernel_rfl)) live [] (by
    rintro ⟨a0, _⟩ r h
    exact ⟨N, 2, ((run N _ a0).trans rfl).trans h⟩)
end spec_l02Two
namespace spec_l09Snapshot
noncomputable def code : Code := Tryz.f74.body.getD .skip
abbrev live : Live := [(15, [1, 3, 7]), (9, [1, 3, 5, 6]), (3, [1, 3, 4])]
noncomputable def G (N : Nat) : Ctx E := gam [(123, [], spec_l07List.sp N), (124, [], spec_l02Two.sp N)]
noncomputable def loop3 : Code := codeAt code [1, 1, 0, 1, 0]
noncomputable def body3 : Code := codeAt loop3 [0]
noncomputable def loop9 : Code := codeAt code [1, 1, 1, 1, 1, 0, 1, 0]
noncomputable def body9 : Code := codeAt loop9 [0]
noncomputable def loop15 : Code := codeAt code [1, 1, 1, 1, 1, 1, 1, 0, 1, 0]
noncomputable def body15 : Code := codeAt loop15 [0]
noncomputable def K3 (N : Nat) (o0 : Orc E R) : KT E R := kAt T (G N) live [] o0 code [1, 1, 0, 1, 0] (kfin T Tryz.f74 (sp N))
noncomputable def St3 (a0 : Ledger) : (Int × (List Int)) → St E
  | (v0, v7) => { ρ := [(1, .c (.at (.ptr 0 0))), (3, .c (.at (.own 1))), (4, .c (.at (.int .i64 v0)))], H := [(0, .box 30 [.ro 9 .str a0.Leaves, .str a0.Map.Key, .str a0.Map.Value, .int .i64 a0.Map.At, .ro 27 (.st 27) a0.Map.Kids, .ro 131 (.st 131) a0.Sessions]), (1, .row 5 (.int .u8) v7 false)], nx := 2, n := 126, pin := [] }
noncomputable def K9 (N : Nat) (o0 : Orc E R) : KT E R := kAt T (G N) live [] o0 code [1, 1, 1, 1, 1, 0, 1, 0] (kfin T Tryz.f74 (sp N))
noncomputable def St9 (a0 : Ledger) : (Int × (List Int) × (List Command)) → St E
  | (v0, v7, v8) => { ρ := [(1, .c (.at (.ptr 0 0))), (3, .c (.at (.own 1))), (5, .c (.at (.own 2))), (6, .c (.at (.int .i64 v0)))], H := [(0, .box 30 [.ro 9 .str a0.Leaves, .str a0.Map.Key, .str a0.Map.Value, .int .i64 a0.Map.At, .ro 27 (.st 27) a0.Map.Kids, .ro 131 (.st 131) a0.Sessions]), (1, .row 5 (.int .u8) v7 false), (2, .row 58 (.st 58) v8 false)], nx := 3, n := 126, pin := [] }
noncomputable def K15 (N : Nat) (o0 : Orc E R) : KT E R := kAt T (G N) live [] o0 code [1, 1, 1, 1, 1, 1, 1, 0, 1, 0] (kfin T Tryz.f74 (sp N))
noncomputable def St15 (a0 : Ledger) : (Int × (List Int)) → St E
  | (v0, v7) => { ρ := [(1, .c (.at (.ptr 0 0))), (3, .c (.at (.own 1))), (7, .c (.at (.int .i64 v0)))], H := [(0, .box 30 [.ro 9 .str a0.Leaves, .str a0.Map.Key, .str a0.Map.Value, .int .i64 a0.Map.At, .ro 27 (.st 27) a0.Map.Kids, .ro 131 (.st 131) a0.Sessions]), (1, .row 5 (.int .u8) v7 false)], nx := 2, n := 126, pin := [] }
noncomputable def m0 (N : Nat) (a0 : Ledger) (lp3 : Int × (List Int) → Option R) : Option R :=
  lp3 ((0:Int), [(wu8 (a0.Leaves.length : Int))])
theorem run (N : Nat) (o0 : Orc E R) (a0 : Ledger) : runF T (G N) live [] Tryz.f74 code (sp N) o0 (a0, ()) = m0 N a0 (fun a => o0 loop3 (K3 N o0) (St3 a0 a)) := by kernel_rfl
theorem body3_0 (N : Nat) (o0 : Orc E R) (o1 : Orc E R) (q1 : St E → Option R) (a0 : Ledger) (v0 : Int) (v7 : List Int) : runA T (G N) live [] o1 body3 (St3 a0 (v0, v7)) (kloop [1, 3, 4] q1 (K3 N o0)) = step3 N a0 (fun a => o0 loop9 (K9 N o0) (St9 a0 a)) (fun a => q1 (St3 a0 a)) (v0, v7) := by kernel_rfl
theorem body9_0 (N : Nat) (o0 : Orc E R) (o1 : Orc E R) (q1 : St E → Option R) (a0 : Ledger) (v0 : Int) (v7 : List Int) (v8 : List Command) : runA T (G N) live [] o1 body9 (St9 a0 (v0, v7, v8)) (kloop [1, 3, 5, 6] q1 (K9 N o0)) = step9 N a0 (fun a => o0 loop15 (K15 N o0) (St15 a0 a)) (fun a => q1 (St9 a0 a)) (v0, v7, v8) := by kernel_rfl
theorem body15_0 (N : Nat) (o0 : Orc E R) (o1 : Orc E R) (q1 : St E → Option R) (a0 : Ledger) (v0 : Int) (v7 : List Int) : runA T (G N) live [] o1 body15 (St15 a0 (v0, v7)) (kloop [1, 3, 7] q1 (K15 N o0)) = step15 N a0 (fun a => q1 (St15 a0 a)) (v0, v7) := by kernel_rfl
theorem lp15_eq (N : Nat) (a0 : Ledger) (a : Int × (List Int)) : (orc T (G N) live [] N 2) loop15 (K15 N (orc T (G N) live [] N 2)) (St15 a0 a) = lp15 N a0 a :=
  (orc_loop (b := body15) (live := [1, 3, 7]) (by kernel_rfl)).trans (iter_eq (St15 a0) _ _ (fun q1 a => by
    have hc := congrFun (congrFun (rfl : (step15 N a0) = (step15 N a0)) (fun a => q1 (St15 a0 a))) a
    obtain ⟨u0, u1⟩ := a
    exact (body15_0 N (orc T (G N) live [] N 2) (orc T (G N) live [] N 1) q1 a0 u0 u1).trans hc) N a)
theorem lp9_eq (N : Nat) (a0 : Ledger) (a : Int × (List Int) × (List Command)) : (orc T (G N) live [] N 2) loop9 (K9 N (orc T (G N) live [] N 2)) (St9 a0 a) = lp9 N a0 a :=
  (orc_loop (b := body9) (live := [1, 3, 5, 6]) (by kernel_rfl)).trans (iter_eq (St9 a0) _ _ (fun q1 a => by
    have hc := congrFun (congrFun (congrArg (step9 N a0) (funext fun a => lp15_eq N a0 a)) (fun a => q1 (St9 a0 a))) a
    obtain ⟨u0, u1, u2⟩ := a
    exact (body9_0 N (orc T (G N) live [] N 2) (orc T (G N) live [] N 1) q1 a0 u0 u1 u2).trans hc) N a)
theorem lp3_eq (N : Nat) (a0 : Ledger) (a : Int × (List Int)) : (orc T (G N) live [] N 2) loop3 (K3 N (orc T (G N) live [] N 2)) (St3 a0 a) = lp3 N a0 a :=
  (orc_loop (b := body3) (live := [1, 3, 4]) (by kernel_rfl)).trans (iter_eq (St3 a0) _ _ (fun q1 a => by
    have hc := congrFun (congrFun (congrArg (step3 N a0) (funext fun a => lp9_eq N a0 a)) (fun a => q1 (St3 a0 a))) a
    obtain ⟨u0, u1⟩ := a
    exact (body3_0 N (orc T (G N) live [] N 2) (orc T (G N) live [] N 1) q1 a0 u0 u1).trans hc) N a)
theorem G_ok (N : Nat) : GamOK Tryz.prog (G N) := gam_ok (l := [(123, [], spec_l07List.sp N), (124, [], spec_l02Two.sp N)]) (⟨spec_l07List.snd N, spec_l02Two.snd N, trivial⟩)
theorem snd (N : Nat) : Sound Tryz.prog E 74 (sp N) :=
  Mir.sound T_OK (G_ok N) mixed Tryz.func74 (c := code) (by kernel_rfl) (by kernel_rfl) (sp N) (Nat.le_of_ble_eq_true (by kernel_rfl)) live [] (by
    rintro ⟨a0, _⟩ r h
    exact ⟨N, 2, ((run N _ a0).trans (congrArg (m0 N a0) (funext fun a => lp3_eq N a0 a))).trans h⟩)
end spec_l09Snapshot
namespace spec_SnapshotBytes
noncomputable def code : Code := Tryz.f29.body.getD .skip
abbrev live : Live := []
noncomputable def G (N : Nat) : Ctx E := gam [(66, [], spec_LedgerOK.sp N), (74, [], spec_l09Snapshot.sp N)]
noncomputable def m0 (N : Nat) (a0 : Ledger) : Option R :=
  ob (spec_LedgerOK.m N (Ledger.mk a0.Leaves (Branch.mk a0.Map.Key a0.Map.Value a0.Map.At a0.Map.Kids) a0.Sessions)) fun y1 =>
  bif (!y1) then
    some (([] : List Int), (1:Int))
  else
  ob (spec_l09Snapshot.m N (Ledger.mk a0.Leaves (Branch.mk a0.Map.Key a0.Map.Value a0.Map.At a0.Map.Kids) a0.Sessions)) fun y2 =>
  some (y2, (0:Int))
theorem run (N : Nat) (o0 : Orc E R) (a0 : Ledger) : runF T (G N) live [] Tryz.f29 code (sp N) o0 (a0, ()) = m0 N a0 := by kernel_rfl
theorem G_ok (N : Nat) : GamOK Tryz.prog (G N) := gam_ok (l := [(66, [], spec_LedgerOK.sp N), (74, [], spec_l09Snapshot.sp N)]) (⟨spec_LedgerOK.snd N, spec_l09Snapshot.snd N, trivial⟩)
theorem snd (N : Nat) : Sound Tryz.prog E 29 (sp N) :=
  Mir.sound T_OK (G_ok N) mixed Tryz.func29 (c := code) (by kernel_rfl) (by kernel_rfl) (sp N) (Nat.le_of_ble_eq_true (by kernel_rfl)) live [] (by
    rintro ⟨a0, _⟩ r h
    exact ⟨N, 2, ((run N _ a0).trans rfl).trans h⟩)
end spec_SnapshotBytes
namespace impl_isHash_1
noncomputable def code : Code := Tryz.f130.body.getD .skip
abbrev live : Live := []
noncomputable def G (N : Nat) : Ctx E := gam []
noncomputable def m0 (N : Nat) (a0 : ByteArray) : Option R :=
  some ((a0.size : Int) != (32:Int))
theorem run (N : Nat) (o0 : Orc E R) (a0 : ByteArray) : runF T (G N) live [] Tryz.f130 code (sp N) o0 (a0, ()) = m0 N a0 := by kernel_rfl
theorem G_ok (N : Nat) : GamOK Tryz.prog (G N) := gam_ok (l := []) (trivial)
theorem snd (N : Nat) : Sound Tryz.prog E 130 (sp N) :=
  Mir.sound T_OK (G_ok N) mixed Tryz.func130 (c := code) (by kernel_rfl) (by kernel_rfl) (sp N) (Nat.le_of_ble_eq_true (by kernel_rfl)) live [] (by
    rintro ⟨a0, _⟩ r h
    exact ⟨N, 2, ((run N _ a0).trans rfl).trans h⟩)
end impl_isHash_1
namespace slices_IndexFunc_string_string__impl_isHash_1
noncomputable def code : Code := Tryz.f184.body.getD .skip
abbrev live : Live := [(2, [0, 1, 7, 8])]
noncomputable def G (N : Nat) : Ctx E := gam [(130, [], impl_isHash_1.sp N)]
noncomputable def loop2 : Code := codeAt code [1, 0, 1, 0]
noncomputable def body2 : Code := codeAt loop2 [0]
noncomputable def K2 (N : Nat) (o0 : Orc E R) : KT E R := kAt T (G N) live [] o0 code [1, 0, 1, 0] (kfin T Tryz.f184 (sp N))
noncomputable def St2 (a0 : List ByteArray) : (Int × Int) → St E
  | (v1, v2) => { ρ := [(0, .c (.at (.ro 9 .str a0))), (1, .clo 130 []), (7, .c (.at (.int .i64 v1))), (8, .c (.at (.int .i64 v2)))], H := [], nx := 0, n := 19, pin := [] }
noncomputable def m0 (N : Nat) (a0 : List ByteArray) (lp2 : Int × Int → Option R) : Option R :=
  lp2 ((a0.length : Int), (0:Int))
theorem run (N : Nat) (o0 : Orc E R) (a0 : List ByteArray) : runF T (G N) live [] Tryz.f184 code (sp N) o0 (a0, (), ()) = m0 N a0 (fun a => o0 loop2 (K2 N o0) (St2 a0 a)) := by kernel_rfl
theorem body2_0 (N : Nat) (o0 : Orc E R) (o1 : Orc E R) (q1 : St E → Option R) (a0 : List ByteArray) (v1 : Int) (v2 : Int) : runA T (G N) live [] o1 body2 (St2 a0 (v1, v2)) (kloop [0, 1, 7, 8] q1 (K2 N o0)) = step2 N a0 (fun a => q1 (St2 a0 a)) (v1, v2) := by kernel_rfl
theorem lp2_eq (N : Nat) (a0 : List ByteArray) (a : Int × Int) : (orc T (G N) live [] N 2) loop2 (K2 N (orc T (G N) live [] N 2)) (St2 a0 a) = lp2 N a0 a :=
  (orc_loop (b := body2) (live := [0, 1, 7, 8]) (by kernel_rfl)).trans (iter_eq (St2 a0) _ _ (fun q1 a => by
    have hc := congrFun (congrFun (rfl : (step2 N a0) = (step2 N a0)) (fun a => q1 (St2 a0 a))) a
    obtain ⟨u0, u1⟩ := a
    exact (body2_0 N (orc T (G N) live [] N 2) (orc T (G N) live [] N 1) q1 a0 u0 u1).trans hc) N a)
theorem G_ok (N : Nat) : GamOK Tryz.prog (G N) := gam_ok (l := [(130, [], impl_isHash_1.sp N)]) (⟨impl_isHash_1.snd N, trivial⟩)
theorem snd (N : Nat) : Sound Tryz.prog E 184 (sp N) :=
  Mir.sound T_OK (G_ok N) mixed Tryz.func184 (c := code) (by kernel_rfl) (by kernel_rfl) (sp N) (Nat.le_of_ble_eq_true (by kernel_rfl)) live [] (by
    rintro ⟨a0, _, _⟩ r h
    exact ⟨N, 2, ((run N _ a0).trans (congrArg (m0 N a0) (funext fun a => lp2_eq N a0 a))).trans h⟩)
end slices_IndexFunc_string_string__impl_isHash_1
namespace slices_ContainsFunc_string_string__impl_isHash_1
noncomputable def code : Code := Tryz.f129.body.getD .skip
abbrev live : Live := []
noncomputable def G (N : Nat) : Ctx E := gam [(184, [130], slices_IndexFunc_string_string__impl_isHash_1.sp N)]
noncomputable def m0 (N : Nat) (a0 : List ByteArray) : Option R :=
  ob (slices_IndexFunc_string_string__impl_isHash_1.m N a0) fun y1 =>
  some (decide (y1 ≥ (0:Int)))
theorem run (N : Nat) (o0 : Orc E R) (a0 : List ByteArray) : runF T (G N) live [] Tryz.f129 code (sp N) o0 (a0, (), ()) = m0 N a0 := by kernel_rfl
theorem G_ok (N : Nat) : GamOK Tryz.prog (G N) := gam_ok (l := [(184, [130], slices_IndexFunc_string_string__impl_isHash_1.sp N)]) (⟨slices_IndexFunc_string_string__impl_isHash_1.snd N, trivial⟩)
theorem snd (N : Nat) : Sound Tryz.prog E 129 (sp N) :=
  Mir.sound T_OK (G_ok N) mixed Tryz.func129 (c := code) (by kernel_rfl) (by kernel_rfl) (sp N) (Nat.le_of_ble_eq_true (by kernel_rfl)) live [] (by
    rintro ⟨a0, _, _⟩ r h
    exact ⟨N, 2, ((run N _ a0).trans rfl).trans h⟩)
end slices_ContainsFunc_string_string__impl_isHash_1
namespace impl_isHash
noncomputable def code : Code := Tryz.f78.body.getD .skip
abbrev live : Live := []
noncomputable def G (N : Nat) : Ctx E := gam [(129, [130], slices_ContainsFunc_string_string__impl_isHash_1.sp N)]
noncomputable def m0 (N : Nat) (a0 : List ByteArray) : Option R :=
  ob (slices_ContainsFunc_string_string__impl_isHash_1.m N a0) fun y1 =>
  some (!y1)
theorem run (N : Nat) (o0 : Orc E R) (a0 : List ByteArray) : runF T (G N) live [] Tryz.f78 code (sp N) o0 (a0, ()) = m0 N a0 := by kernel_rfl
theorem G_ok (N : Nat) : GamOK Tryz.prog (G N) := gam_ok (l := [(129, [130], slices_ContainsFunc_string_string__impl_isHash_1.sp N)]) (⟨slices_ContainsFunc_string_string__impl_isHash_1.snd N, trivial⟩)
theorem snd (N : Nat) : Sound Tryz.prog E 78 (sp N) :=
  Mir.sound T_OK (G_ok N) mixed Tryz.func78 (c := code) (by kernel_rfl) (by kernel_rfl) (sp N) (Nat.le_of_ble_eq_true (by kernel_rfl)) live [] (by
    rintro ⟨a0, _⟩ r h
    exact ⟨N, 2, ((run N _ a0).trans rfl).trans h⟩)
end impl_isHash
namespace impl_Branch_isEmpty
noncomputable def code : Code := Tryz.f167.body.getD .skip
abbrev live : Live := []
noncomputable def G (N : Nat) : Ctx E := gam []
noncomputable def m0 (N : Nat) (a0 : Branch) : Option R :=
  bif (seq a0.Key ByteArray.empty) then
    bif (bif true then (seq a0.Value ByteArray.empty) else false) then
      bif (bif true then (a0.At == (0:Int)) else false) then
        some (bif true then ((a0.Kids.length : Int) == (0:Int)) else false)
      else
      some false
    else
    some false
  else
  some false
theorem run (N : Nat) (o0 : Orc E R) (a0 : Branch) : runF T (G N) live [] Tryz.f167 code (sp N) o0 (a0, ()) = m0 N a0 := by kernel_rfl
theorem G_ok (N : Nat) : GamOK Tryz.prog (G N) := gam_ok (l := []) (trivial)
theorem snd (N : Nat) : Sound Tryz.prog E 167 (sp N) :=
  Mir.sound T_OK (G_ok N) mixed Tryz.func167 (c := code) (by kernel_rfl) (by kernel_rfl) (sp N) (Nat.le_of_ble_eq_true (by kernel_rfl)) live [] (by
    rintro ⟨a0, _⟩ r h
    exact ⟨N, 2, ((run N _ a0).trans rfl).trans h⟩)
end impl_Branch_isEmpty
namespace impl_within
noncomputable def code : Code := Tryz.f131.body.getD .skip
abbrev live : Live := []
noncomputable def G (N : Nat) : Ctx E := gam []
noncomputable def m0 (N : Nat) (a0 : Int) (a1 : Int) (a2 : Int) : Option R :=
  bif (decide (a0 ≥ a1)) then
    some (bif true then (decide (a0 ≤ a2)) else false)
  else
  some false
theorem run (N : Nat) (o0 : Orc E R) (a0 : Int) (a1 : Int) (a2 : Int) : runF T (G N) live [] Tryz.f131 code (sp N) o0 (a0, a1, a2, ()) = m0 N a0 a1 a2 := by kernel_rfl
theorem G_ok (N : Nat) : GamOK Tryz.prog (G N) := gam_ok (l := []) (trivial)
theorem snd (N : Nat) : Sound Tryz.prog E 131 (sp N) :=
  Mir.sound T_OK (G_ok N) mixed Tryz.func131 (c := code) (by kernel_rfl) (by kernel_rfl) (sp N) (Nat.le_of_ble_eq_true (by kernel_rfl)) live [] (by
    rintro ⟨a0, a1, a2, _⟩ r h
    exact ⟨N, 2, ((run N _ a0 a1 a2).trans rfl).trans h⟩)
end impl_within
namespace impl_isKey
noncomputable def code : Code := Tryz.f114.body.getD .skip
abbrev live : Live := []
noncomputable def G (N : Nat) : Ctx E := gam [(131, [], impl_within.sp N)]
noncomputable def m0 (N : Nat) (a0 : ByteArray) : Option R :=
  ob (impl_within.m N (a0.size : Int) (1:Int) (24:Int)) fun y1 =>
  some y1
theorem run (N : Nat) (o0 : Orc E R) (a0 : ByteArray) : runF T (G N) live [] Tryz.f114 code (sp N) o0 (a0, ()) = m0 N a0 := by kernel_rfl
theorem G_ok (N : Nat) : GamOK Tryz.prog (G N) := gam_ok (l := [(131, [], impl_within.sp N)]) (⟨impl_within.snd N, trivial⟩)
theorem snd (N : Nat) : Sound Tryz.prog E 114 (sp N) :=
  Mir.sound T_OK (G_ok N) mixed Tryz.func114 (c := code) (by kernel_rfl) (by kernel_rfl) (sp N) (Nat.le_of_ble_eq_true (by kernel_rfl)) live [] (by
    rintro ⟨a0, _⟩ r h
    exact ⟨N, 2, ((run N _ a0).trans rfl).trans h⟩)
end impl_isKey
namespace impl_isValue
noncomputable def code : Code := Tryz.f113.body.getD .skip
abbrev live : Live := []
noncomputable def G (N : Nat) : Ctx E := gam []
noncomputable def m0 (N : Nat) (a0 : ByteArray) : Option R :=
  some (decide ((a0.size : Int) ≤ (60:Int)))
theorem run (N : Nat) (o0 : Orc E R) (a0 : ByteArray) : runF T (G N) live [] Tryz.f113 code (sp N) o0 (a0, ()) = m0 N a0 := by kernel_rfl
theorem G_ok (N : Nat) : GamOK Tryz.prog (G N) := gam_ok (l := []) (trivial)
theorem snd (N : Nat) : Sound Tryz.prog E 113 (sp N) :=
  Mir.sound T_OK (G_ok N) mixed Tryz.func113 (c := code) (by kernel_rfl) (by kernel_rfl) (sp N) (Nat.le_of_ble_eq_true (by kernel_rfl)) live [] (by
    rintro ⟨a0, _⟩ r h
    exact ⟨N, 2, ((run N _ a0).trans rfl).trans h⟩)
end impl_isValue
namespace impl_Branch_isLeaf
noncomputable def code : Code := Tryz.f218.body.getD .skip
abbrev live : Live := []
noncomputable def G (N : Nat) : Ctx E := gam [(114, [], impl_isKey.sp N), (113, [], impl_isValue.sp N)]
noncomputable def m0 (N : Nat) (a0 : Branch) : Option R :=
  bif (a0.At == (256:Int)) then
    ob (impl_isKey.m N a0.Key) fun y1 =>
    bif (bif true then y1 else false) then
      ob (impl_isValue.m N a0.Value) fun y2 =>
      bif (bif true then y2 else false) then
        some (bif true then ((a0.Kids.length : Int) == (0:Int)) else false)
      else
      some false
    else
    some false
  else
  some false
theorem run (N : Nat) (o0 : Orc E R) (a0 : Branch) : runF T (G N) live [] Tryz.f218 code (sp N) o0 (a0, ()) = m0 N a0 := by kernel_rfl
theorem G_ok (N : Nat) : GamOK Tryz.prog (G N) := gam_ok (l := [(114, [], impl_isKey.sp N), (113, [], impl_isValue.sp N)]) (⟨impl_isKey.snd N, impl_isValue.snd N, trivial⟩)
theorem snd (N : Nat) : Sound Tryz.prog E 218 (sp N) :=
  Mir.sound T_OK (G_ok N) mixed Tryz.func218 (c := code) (by kernel_rfl) (by kernel_rfl) (sp N) (Nat.le_of_ble_eq_true (by kernel_rfl)) live [] (by
    rintro ⟨a0, _⟩ r h
    exact ⟨N, 2, ((run N _ a0).trans rfl).trans h⟩)
end impl_Branch_isLeaf
namespace strings_Repeat
theorem repeatL_eq (l : List UInt8) : ∀ n, Go.Lib.repeatL l n = (List.replicate n l).flatten
  | 0 => rfl
  | n + 1 => by rw [List.replicate_succ, List.flatten_cons, ← repeatL_eq l n]; rfl
theorem str_of {W : World} {F : Nat → Prop} {s : ByteArray} {v : Value} (h : RoV E W F .str s v) : v = .string s := by
  obtain ⟨d, h⟩ := h; cases d <;> exact h
theorem int_of {W : World} {F : Nat → Prop} {k : IntKind} {n : Int} {v : Value} (h : RoV E W F (.int k) n v) : v = .int k n := by
  obtain ⟨d, h⟩ := h; cases d <;> exact h
theorem snd (N : Nat) : Sound Tryz.prog E 185 (sp N) := by
  refine ⟨fun args W => run_callFunc_go Tryz.func185 (c := Tryz.f185.body.getD .skip) (by kernel_rfl) (by kernel_rfl) args W, ?_⟩
  rintro W F ⟨a0, a1, _⟩ r args fp hfn ⟨v, vs, f1, f2, rfl, rfl, ⟨h0, rfl⟩, ⟨w, ws, g1, g2, rfl, rfl, ⟨h1, rfl⟩, ⟨rfl, rfl⟩⟩⟩ _ _ hF
  obtain rfl := str_of h0
  obtain rfl := int_of h1
  have hfn : (bif decide (0 ≤ a1) && decide (a1 ≤ 9223372036854775807) && decide (a0.size * a1.toNat ≤ 140737488355328) then some (rep a0 a1.toNat) else none) = some r := hfn
  cases hc : decide (0 ≤ a1) && decide (a1 ≤ 9223372036854775807) && decide (a0.size * a1.toNat ≤ 140737488355328) with
  | false => rw [hc] at hfn; cases hfn
  | true =>
    rw [hc, cond_true] at hfn
    cases hfn
    simp only [Bool.and_eq_true, decide_eq_true_eq] at hc
    obtain ⟨⟨c1, c2⟩, c3⟩ := hc
    obtain ⟨n, rfl⟩ := Int.eq_ofNat_of_zero_le c1
    have c2 : (n : Int) ≤ 9223372036854775807 := c2
    have c3 : a0.size * n ≤ 140737488355328 := c3
    have hcall := Go.Proofs.Any.strings_Repeat Tryz.repLays Tryz.repExtra a0 n W (by omega) c3
    refine (show Calls Tryz.prog 185 #[.string a0, .int .i64 n] W _ from hcall).mono ?_
    rintro e W' ⟨rfl, hb⟩
    refine ⟨_, rfl, ⟨F, [.string (rep a0 n)], [], [], ?_, fun b h => h, fun b h => ⟨.inl h, Nat.lt_of_lt_of_le (hF b h) hb.size⟩, ⟨_, [], [], [], rfl, rfl, ⟨rfl, rfl⟩, ⟨rfl, rfl⟩⟩, ⟨_, _, [], [], rfl, rfl, rfl, ⟨_, _, [], [], rfl, rfl, rfl, ⟨rfl, rfl⟩⟩⟩, List.nodup_nil, fun b h => by cases h⟩, hb.os, hb.tape, hb.output, hb.size, fun b h _ => hb.block b h⟩
    rw [repeatL_eq]; rfl
end strings_Repeat
namespace impl_number
noncomputable def code : Code := Tryz.f125.body.getD .skip
abbrev live : Live := [(3, [0, 5, 6])]
noncomputable def G (N : Nat) : Ctx E := gam []
noncomputable def loop3 : Code := codeAt code [1, 1, 0, 1, 0]
noncomputable def body3 : Code := codeAt loop3 [0]
noncomputable def K3 (N : Nat) (o0 : Orc E R) : KT E R := kAt T (G N) live [] o0 code [1, 1, 0, 1, 0] (kfin T Tryz.f125 (sp N))
noncomputable def St3 (a0 : Int) (a1 : Int) : (Int × Int × (List Int)) → St E
  | (v0, v1, v2) => { ρ := [(0, .c (.at (.int .i64 v0))), (5, .c (.at (.own 0))), (6, .c (.at (.int .i64 v1)))], H := [(0, .row 5 (.int .u8) v2 false)], nx := 1, n := 24, pin := [] }
noncomputable def m0 (N : Nat) (a0 : Int) (a1 : Int) (lp3 : Int × Int × (List Int) → Option R) : Option R :=
  bif (decide (0 ≤ a1)) then
  bif (room (Int.toNat a1) 1) then
  lp3 (a0, (w64 (a1 - (1:Int))), (List.replicate (Int.toNat a1) (0:Int)))
  else none
  else none
theorem run (N : Nat) (o0 : Orc E R) (a0 : Int) (a1 : Int) : runF T (G N) live [] Tryz.f125 code (sp N) o0 (a0, a1, ()) = m0 N a0 a1 (fun a => o0 loop3 (K3 N o0) (St3 a0 a1 a)) := by kernel_rfl
theorem body3_0 (N : Nat) (o0 : Orc E R) (o1 : Orc E R) (q1 : St E → Option R) (a0 : Int) (a1 : Int) (v0 : Int) (v1 : Int) (v2 : List Int) : runA T (G N) live [] o1 body3 (St3 a0 a1 (v0, v1, v2)) (kloop [0, 5, 6] q1 (K3 N o0)) = step3 N a0 a1 (fun a => q1 (St3 a0 a1 a)) (v0, v1, v2) := by kernel_rfl
theorem lp3_eq (N : Nat) (a0 : Int) (a1 : Int) (a : Int × Int × (List Int)) : (orc T (G N) live [] N 2) loop3 (K3 N (orc T (G N) live [] N 2)) (St3 a0 a1 a) = lp3 N a0 a1 a :=
  (orc_loop (b := body3) (live := [0, 5, 6]) (by kernel_rfl)).trans (iter_eq (St3 a0 a1) _ _ (fun q1 a => by
    have hc := congrFun (congrFun (rfl : (step3 N a0 a1) = (step3 N a0 a1)) (fun a => q1 (St3 a0 a1 a))) a
    obtain ⟨u0, u1, u2⟩ := a
    exact (body3_0 N (orc T (G N) live [] N 2) (orc T (G N) live [] N 1) q1 a0 a1 u0 u1 u2).trans hc) N a)
theorem G_ok (N : Nat) : GamOK Tryz.prog (G N) := gam_ok (l := []) (trivial)
theorem snd (N : Nat) : Sound Tryz.prog E 125 (sp N) :=
  Mir.sound T_OK (G_ok N) mixed Tryz.func125 (c := code) (by kernel_rfl) (by kernel_rfl) (sp N) (Nat.le_of_ble_eq_true (by kernel_rfl)) live [] (by
    rintro ⟨a0, a1, _⟩ r h
    exact ⟨N, 2, ((run N _ a0 a1).trans (congrArg (m0 N a0 a1) (funext fun a => lp3_eq N a0 a1 a))).trans h⟩)
end impl_number
namespace impl_hashWords
noncomputable def code : Code := Tryz.f186.body.getD .skip
abbrev live : Live := []
noncomputable def G (N : Nat) : Ctx E := gam []
noncomputable def m0 (N : Nat) : Option R :=
  (let w1 : List Int := [(1779033703:Int), (3144134277:Int), (1013904242:Int), (2773480762:Int), (1359893119:Int), (2600822924:Int), (528734635:Int), (1541459225:Int)]
  some w1)
theorem run (N : Nat) (o0 : Orc E R) : runF T (G N) live [] Tryz.f186 code (sp N) o0 () = m0 N := by kernel_rfl
theorem G_ok (N : Nat) : GamOK Tryz.prog (G N) := gam_ok (l := []) (trivial)
theorem snd (N : Nat) : Sound Tryz.prog E 186 (sp N) :=
  Mir.sound T_OK (G_ok N) mixed Tryz.func186 (c := code) (by kernel_rfl) (by kernel_rfl) (sp N) (Nat.le_of_ble_eq_true (by kernel_rfl)) live [] (by
    rintro _ r h
    exact ⟨N, 2, ((run N _).trans rfl).trans h⟩)
end impl_hashWords
namespace impl_roundWords
noncomputable def code : Code := Tryz.f187.body.getD .skip
abbrev live : Live := []
noncomputable def G (N : Nat) : Ctx E := gam []
noncomputable def m0 (N : Nat) : Option R :=
  (let w1 : List Int := [(1116352408:Int), (1899447441:Int), (3049323471:Int), (3921009573:Int), (961987163:Int), (1508970993:Int), (2453635748:Int), (2870763221:Int), (3624381080:Int), (310598401:Int), (607225278:Int), (1426881987:Int), (1925078388:Int), (2162078206:Int), (2614888103:Int), (3248222580:Int), (3835390401:Int), (4022224774:Int), (264347078:Int), (604807628:Int), (770255983:Int), (1249150122:Int), (1555081692:Int), (1996064986:Int), (2554220882:Int), (2821834349:Int), (2952996808:Int), (3210313671:Int), (3336571891:Int), (3584528711:Int), (113926993:Int), (338241895:Int), (666307205:Int), (773529912:Int), (1294757372:Int), (1396182291:Int), (1695183700:Int), (1986661051:Int), (2177026350:Int), (2456956037:Int), (2730485921:Int), (2820302411:Int), (3259730800:Int), (3345764771:Int), (3516065817:Int), (3600352804:Int), (4094571909:Int), (275423344:Int), (430227734:Int), (506948616:Int), (659060556:Int), (883997877:Int), (958139571:Int), (1322822218:Int), (1537002063:Int), (1747873779:Int), (1955562222:Int), (2024104815:Int), (2227730452:Int), (2361852424:Int), (2428436474:Int), (2756734187:Int), (3204031479:Int), (3329325298:Int)]
  some w1)
theorem run (N : Nat) (o0 : Orc E R) : runF T (G N) live [] Tryz.f187 code (sp N) o0 () = m0 N := by kernel_rfl
theorem G_ok (N : Nat) : GamOK Tryz.prog (G N) := gam_ok (l := []) (trivial)
theorem snd (N : Nat) : Sound Tryz.prog E 187 (sp N) :=
  Mir.sound T_OK (G_ok N) mixed Tryz.func187 (c := code) (by kernel_rfl) (by kernel_rfl) (sp N) (Nat.le_of_ble_eq_true (by kernel_rfl)) live [] (by
    rintro _ r h
    exact ⟨N, 2, ((run N _).trans rfl).trans h⟩)
end impl_roundWords
namespace math_bits_RotateLeft32
noncomputable def code : Code := Tryz.f263.body.getD .skip
abbrev live : Live := []
noncomputable def G (N : Nat) : Ctx E := gam []
noncomputable def m0 (N : Nat) (a0 : Int) (a1 : Int) : Option R :=
  bif (!decide ((ibit .and .u64 (wu64 a1) (31:Int)) < 0)) then
  bif (!decide ((wu64 ((32:Int) - (ibit .and .u64 (wu64 a1) (31:Int)))) < 0)) then
  (let w1 : Int := (ibit .or .u32 (wu32 (a0 * 2 ^ (min (Int.toNat (ibit .and .u64 (wu64 a1) (31:Int))) 32))) (Int.fdiv a0 (2 ^ (min (Int.toNat (wu64 ((32:Int) - (ibit .and .u64 (wu64 a1) (31:Int))))) 32))))
  some w1)
  else none
  else none
theorem run (N : Nat) (o0 : Orc E R) (a0 : Int) (a1 : Int) : runF T (G N) live [] Tryz.f263 code (sp N) o0 (a0, a1, ()) = m0 N a0 a1 := by kernel_rfl
theorem G_ok (N : Nat) : GamOK Tryz.prog (G N) := gam_ok (l := []) (trivial)
theorem snd (N : Nat) : Sound Tryz.prog E 263 (sp N) :=
  Mir.sound T_OK (G_ok N) mixed Tryz.func263 (c := code) (by kernel_rfl) (by kernel_rfl) (sp N) (Nat.le_of_ble_eq_true (by kernel_rfl)) live [] (by
    rintro ⟨a0, a1, _⟩ r h
    exact ⟨N, 2, ((run N _ a0 a1).trans rfl).trans h⟩)
end math_bits_RotateLeft32
namespace impl_turned
noncomputable def code : Code := Tryz.f239.body.getD .skip
abbrev live : Live := []
noncomputable def G (N : Nat) : Ctx E := gam [(263, [], math_bits_RotateLeft32.sp N)]
noncomputable def m0 (N : Nat) (a0 : Int) (a1 : Int) : Option R :=
  ob (math_bits_RotateLeft32.m N a0 (w64 (0 - a1))) fun y1 =>
  some y1
theorem run (N : Nat) (o0 : Orc E R) (a0 : Int) (a1 : Int) : runF T (G N) live [] Tryz.f239 code (sp N) o0 (a0, a1, ()) = m0 N a0 a1 := by kernel_rfl
theorem G_ok (N : Nat) : GamOK Tryz.prog (G N) := gam_ok (l := [(263, [], math_bits_RotateLeft32.sp N)]) (⟨math_bits_RotateLeft32.snd N, trivial⟩)
theorem snd (N : Nat) : Sound Tryz.prog E 239 (sp N) :=
  Mir.sound T_OK (G_ok N) mixed Tryz.func239 (c := code) (by kernel_rfl) (by kernel_rfl) (sp N) (Nat.le_of_ble_eq_true (by kernel_rfl)) live [] (by
    rintro ⟨a0, a1, _⟩ r h
    exact ⟨N, 2, ((run N _ a0 a1).trans rfl).trans h⟩)
end impl_turned
namespace impl_wordsOf
noncomputable def code : Code := Tryz.f238.body.getD .skip
abbrev live : Live := [(3, [0, 2, 3, 10])]
noncomputable def G (N : Nat) : Ctx E := gam [(239, [], impl_turned.sp N)]
noncomputable def loop3 : Code := codeAt code [1, 1, 0, 1, 0]
noncomputable def body3 : Code := codeAt loop3 [0]
noncomputable def K3 (N : Nat) (o0 : Orc E R) : KT E R := kAt T (G N) live [] o0 code [1, 1, 0, 1, 0] (kfin T Tryz.f238 (sp N))
noncomputable def St3 (a0 : ByteArray) : (Int × (List Int) × (List Int)) → St E
  | (v1, v2, v3) => { ρ := [(0, .c (.at (.str a0))), (2, .c (.at (.ptr 0 0))), (3, .c (.at (.ptr 1 0))), (10, .c (.at (.int .i64 v1)))], H := [(0, .arr 241 .u32 64 v2), (1, .arr 241 .u32 64 v3)], nx := 2, n := 87, pin := [] }
noncomputable def m0 (N : Nat) (a0 : ByteArray) (lp3 : Int × (List Int) × (List Int) → Option R) : Option R :=
  lp3 ((0:Int), (List.replicate 64 (0:Int)), (List.replicate 64 (0:Int)))
theorem run (N : Nat) (o0 : Orc E R) (a0 : ByteArray) : runF T (G N) live [] Tryz.f238 code (sp N) o0 (a0, ()) = m0 N a0 (fun a => o0 loop3 (K3 N o0) (St3 a0 a)) := by kernel_rfl
theorem body3_0 (N : Nat) (o0 : Orc E R) (o1 : Orc E R) (q1 : St E → Option R) (a0 : ByteArray) (v1 : Int) (v2 : List Int) (v3 : List Int) : runA T (G N) live [] o1 body3 (St3 a0 (v1, v2, v3)) (kloop [0, 2, 3, 10] q1 (K3 N o0)) = step3 N a0 (fun a => q1 (St3 a0 a)) (v1, v2, v3) := by kernel_rfl
theorem lp3_eq (N : Nat) (a0 : ByteArray) (a : Int × (List Int) × (List Int)) : (orc T (G N) live [] N 2) loop3 (K3 N (orc T (G N) live [] N 2)) (St3 a0 a) = lp3 N a0 a :=
  (orc_loop (b := body3) (live := [0, 2, 3, 10]) (by kernel_rfl)).trans (iter_eq (St3 a0) _ _ (fun q1 a => by
    have hc := congrFun (congrFun (rfl : (step3 N a0) = (step3 N a0)) (fun a => q1 (St3 a0 a))) a
    obtain ⟨u0, u1, u2⟩ := a
    exact (body3_0 N (orc T (G N) live [] N 2) (orc T (G N) live [] N 1) q1 a0 u0 u1 u2).trans hc) N a)
theorem G_ok (N : Nat) : GamOK Tryz.prog (G N) := gam_ok (l := [(239, [], impl_turned.sp N)]) (⟨impl_turned.snd N, trivial⟩)
theorem snd (N : Nat) : Sound Tryz.prog E 238 (sp N) :=
  Mir.sound T_OK (G_ok N) mixed Tryz.func238 (c := code) (by kernel_rfl) (by kernel_rfl) (sp N) (Nat.le_of_ble_eq_true (by kernel_rfl)) live [] (by
    rintro ⟨a0, _⟩ r h
    exact ⟨N, 2, ((run N _ a0).trans (congrArg (m0 N a0) (funext fun a => lp3_eq N a0 a))).trans h⟩)
end impl_wordsOf
namespace impl_blockHash
noncomputable def code : Code := Tryz.f188.body.getD .skip
abbrev live : Live := [(11, [3, 6, 7, 100]), (3, [3, 4, 6, 7, 8, 22])]
noncomputable def G (N : Nat) : Ctx E := gam [(238, [], impl_wordsOf.sp N), (239, [], impl_turned.sp N)]
noncomputable def loop3 : Code := codeAt code [1, 1, 0, 1, 0]
noncomputable def body3 : Code := codeAt loop3 [0]
noncomputable def loop11 : Code := codeAt code [1, 1, 1, 0, 1, 0]
noncomputable def body11 : Code := codeAt loop11 [0]
noncomputable def K3 (N : Nat) (o0 : Orc E R) : KT E R := kAt T (G N) live [] o0 code [1, 1, 0, 1, 0] (kfin T Tryz.f188 (sp N))
noncomputable def St3 (a0 : List Int) (a1 : List Int) (a2 : ByteArray) : (Int × (List Int) × (List Int) × (List Int)) → St E
  | (v0, v3, v4, v5) => { ρ := [(3, .c (.at (.ptr 0 0))), (4, .c (.at (.ptr 1 0))), (6, .c (.at (.ptr 2 0))), (7, .c (.at (.ptr 3 0))), (8, .c (.at (.ptr 4 0))), (22, .c (.at (.int .i64 v0)))], H := [(0, .arr 239 .u32 8 a0), (1, .arr 241 .u32 64 a1), (2, .arr 239 .u32 8 v3), (3, .arr 239 .u32 8 v4), (4, .arr 241 .u32 64 v5)], nx := 5, n := 113, pin := [] }
noncomputable def K11 (N : Nat) (o0 : Orc E R) : KT E R := kAt T (G N) live [] o0 code [1, 1, 1, 0, 1, 0] (kfin T Tryz.f188 (sp N))
noncomputable def St11 (a0 : List Int) (a1 : List Int) (a2 : ByteArray) : (Int × (List Int) × (List Int)) → St E
  | (v0, v2, v3) => { ρ := [(3, .c (.at (.ptr 0 0))), (6, .c (.at (.ptr 1 0))), (7, .c (.at (.ptr 2 0))), (100, .c (.at (.int .i64 v0)))], H := [(0, .arr 239 .u32 8 a0), (1, .arr 239 .u32 8 v2), (2, .arr 239 .u32 8 v3)], nx := 3, n := 113, pin := [] }
noncomputable def m0 (N : Nat) (a0 : List Int) (a1 : List Int) (a2 : ByteArray) (lp3 : Int × (List Int) × (List Int) × (List Int) → Option R) : Option R :=
  ob (impl_wordsOf.m N a2) fun y1 =>
  lp3 ((0:Int), (List.replicate 8 (0:Int)), a0, y1)
theorem run (N : Nat) (o0 : Orc E R) (a0 : List Int) (a1 : List Int) (a2 : ByteArray) : runF T (G N) live [] Tryz.f188 code (sp N) o0 (a0, a1, a2, ()) = m0 N a0 a1 a2 (fun a => o0 loop3 (K3 N o0) (St3 a0 a1 a2 a)) := by kernel_rfl
theorem body3_0 (N : Nat) (o0 : Orc E R) (o1 : Orc E R) (q1 : St E → Option R) (a0 : List Int) (a1 : List Int) (a2 : ByteArray) (v0 : Int) (v3 : List Int) (v4 : List Int) (v5 : List Int) : runA T (G N) live [] o1 body3 (St3 a0 a1 a2 (v0, v3, v4, v5)) (kloop [3, 4, 6, 7, 8, 22] q1 (K3 N o0)) = step3 N a0 a1 a2 (fun a => o0 loop11 (K11 N o0) (St11 a0 a1 a2 a)) (fun a => q1 (St3 a0 a1 a2 a)) (v0, v3, v4, v5) := by kernel_rfl
theorem body11_0 (N : Nat) (o0 : Orc E R) (o1 : Orc E R) (q1 : St E → Option R) (a0 : List Int) (a1 : List Int) (a2 : ByteArray) (v0 : Int) (v2 : List Int) (v3 : List Int) : runA T (G N) live [] o1 body11 (St11 a0 a1 a2 (v0, v2, v3)) (kloop [3, 6, 7, 100] q1 (K11 N o0)) = step11 N a0 a1 a2 (fun a => q1 (St11 a0 a1 a2 a)) (v0, v2, v3) := by kernel_rfl
theorem lp11_eq (N : Nat) (a0 : List Int) (a1 : List Int) (a2 : ByteArray) (a : Int × (List Int) × (List Int)) : (orc T (G N) live [] N 2) loop11 (K11 N (orc T (G N) live [] N 2)) (St11 a0 a1 a2 a) = lp11 N a0 a1 a2 a :=
  (orc_loop (b := body11) (live := [3, 6, 7, 100]) (by kernel_rfl)).trans (iter_eq (St11 a0 a1 a2) _ _ (fun q1 a => by
    have hc := congrFun (congrFun (rfl : (step11 N a0 a1 a2) = (step11 N a0 a1 a2)) (fun a => q1 (St11 a0 a1 a2 a))) a
    obtain ⟨u0, u1, u2⟩ := a
    exact (body11_0 N (orc T (G N) live [] N 2) (orc T (G N) live [] N 1) q1 a0 a1 a2 u0 u1 u2).trans hc) N a)
theorem lp3_eq (N : Nat) (a0 : List Int) (a1 : List Int) (a2 : ByteArray) (a : Int × (List Int) × (List Int) × (List Int)) : (orc T (G N) live [] N 2) loop3 (K3 N (orc T (G N) live [] N 2)) (St3 a0 a1 a2 a) = lp3 N a0 a1 a2 a :=
  (orc_loop (b := body3) (live := [3, 4, 6, 7, 8, 22]) (by kernel_rfl)).trans (iter_eq (St3 a0 a1 a2) _ _ (fun q1 a => by
    have hc := congrFun (congrFun (congrArg (step3 N a0 a1 a2) (funext fun a => lp11_eq N a0 a1 a2 a)) (fun a => q1 (St3 a0 a1 a2 a))) a
    obtain ⟨u0, u1, u2, u3⟩ := a
    exact (body3_0 N (orc T (G N) live [] N 2) (orc T (G N) live [] N 1) q1 a0 a1 a2 u0 u1 u2 u3).trans hc) N a)
theorem G_ok (N : Nat) : GamOK Tryz.prog (G N) := gam_ok (l := [(238, [], impl_wordsOf.sp N), (239, [], impl_turned.sp N)]) (⟨impl_wordsOf.snd N, impl_turned.snd N, trivial⟩)
theorem snd (N : Nat) : Sound Tryz.prog E 188 (sp N) :=
  Mir.sound T_OK (G_ok N) mixed Tryz.func188 (c := code) (by kernel_rfl) (by kernel_rfl) (sp N) (Nat.le_of_ble_eq_true (by kernel_rfl)) live [] (by
    rintro ⟨a0, a1, a2, _⟩ r h
    exact ⟨N, 2, ((run N _ a0 a1 a2).trans (congrArg (m0 N a0 a1 a2) (funext fun a => lp3_eq N a0 a1 a2 a))).trans h⟩)
end impl_blockHash
namespace impl_hash
noncomputable def code : Code := Tryz.f132.body.getD .skip
abbrev live : Live := [(9, [7, 40, 41]), (4, [3, 4, 5, 6])]
noncomputable def G (N : Nat) : Ctx E := gam [(185, [], strings_Repeat.sp N), (125, [], impl_number.sp N), (186, [], impl_hashWords.sp N), (187, [], impl_roundWords.sp N), (188, [], impl_blockHash.sp N)]
noncomputable def loop4 : Code := codeAt code [1, 1, 1, 0, 1, 0]
noncomputable def body4 : Code := codeAt loop4 [0]
noncomputable def loop9 : Code := codeAt code [1, 1, 1, 1, 1, 0, 1, 0]
noncomputable def body9 : Code := codeAt loop9 [0]
noncomputable def K4 (N : Nat) (o0 : Orc E R) : KT E R := kAt T (G N) live [] o0 code [1, 1, 1, 0, 1, 0] (kfin T Tryz.f132 (sp N))
noncomputable def St4 (a0 : ByteArray) : (ByteArray × Int × (List Int) × (List Int)) → St E
  | (v0, v1, v2, v3) => { ρ := [(3, .c (.at (.str v0))), (4, .c (.at (.ptr 0 0))), (5, .c (.at (.ptr 1 0))), (6, .c (.at (.int .i64 v1)))], H := [(0, .arr 239 .u32 8 v2), (1, .arr 241 .u32 64 v3)], nx := 2, n := 51, pin := [] }
noncomputable def K9 (N : Nat) (o0 : Orc E R) : KT E R := kAt T (G N) live [] o0 code [1, 1, 1, 1, 1, 0, 1, 0] (kfin T Tryz.f132 (sp N))
noncomputable def St9 (a0 : ByteArray) : (ByteArray × (List Int) × Int) → St E
  | (v0, v1, v2) => { ρ := [(7, .c (.at (.str v0))), (40, .c (.arr .u32 8 v1)), (41, .c (.at (.int .i64 v2)))], H := [], nx := 0, n := 51, pin := [] }
noncomputable def m0 (N : Nat) (a0 : ByteArray) (lp4 : ByteArray × Int × (List Int) × (List Int) → Option R) : Option R :=
  bif (decide (a0.size + (⟨#[128]⟩ : ByteArray).size ≤ 9223372036854775807)) then
  bif (!decide ((64:Int) = 0)) then
  bif (!decide ((64:Int) = 0)) then
  ob (strings_Repeat.m N (⟨#[0]⟩ : ByteArray) (Int.tmod (w64 ((119:Int) - (Int.tmod (a0.size : Int) (64:Int)))) (64:Int))) fun y1 =>
  bif (decide ((a0 ++ (⟨#[128]⟩ : ByteArray)).size + y1.size ≤ 9223372036854775807)) then
  ob (impl_number.m N (w64 ((8:Int) * (a0.size : Int))) (8:Int)) fun y2 =>
  bif (decide (((a0 ++ (⟨#[128]⟩ : ByteArray)) ++ y1).size + y2.size ≤ 9223372036854775807)) then
  ob (impl_hashWords.m N) fun y3 =>
  ob (impl_roundWords.m N) fun y4 =>
  lp4 ((((a0 ++ (⟨#[128]⟩ : ByteArray)) ++ y1) ++ y2), (0:Int), y3, y4)
  else none
  else none
  else none
  else none
  else none
theorem run (N : Nat) (o0 : Orc E R) (a0 : ByteArray) : runF T (G N) live [] Tryz.f132 code (sp N) o0 (a0, ()) = m0 N a0 (fun a => o0 loop4 (K4 N o0) (St4 a0 a)) := by kernel_rfl
theorem body4_0 (N : Nat) (o0 : Orc E R) (o1 : Orc E R) (q1 : St E → Option R) (a0 : ByteArray) (v0 : ByteArray) (v1 : Int) (v2 : List Int) (v3 : List Int) : runA T (G N) live [] o1 body4 (St4 a0 (v0, v1, v2, v3)) (kloop [3, 4, 5, 6] q1 (K4 N o0)) = step4 N a0 (fun a => o0 loop9 (K9 N o0) (St9 a0 a)) (fun a => q1 (St4 a0 a)) (v0, v1, v2, v3) := by kernel_rfl
theorem body9_0 (N : Nat) (o0 : Orc E R) (o1 : Orc E R) (q1 : St E → Option R) (a0 : ByteArray) (v0 : ByteArray) (v1 : List Int) (v2 : Int) : runA T (G N) live [] o1 body9 (St9 a0 (v0, v1, v2)) (kloop [7, 40, 41] q1 (K9 N o0)) = step9 N a0 (fun a => q1 (St9 a0 a)) (v0, v1, v2) := by kernel_rfl
theorem lp9_eq (N : Nat) (a0 : ByteArray) (a : ByteArray × (List Int) × Int) : (orc T (G N) live [] N 2) loop9 (K9 N (orc T (G N) live [] N 2)) (St9 a0 a) = lp9 N a0 a :=
  (orc_loop (b := body9) (live := [7, 40, 41]) (by kernel_rfl)).trans (iter_eq (St9 a0) _ _ (fun q1 a => by
    have hc := congrFun (congrFun (rfl : (step9 N a0) = (step9 N a0)) (fun a => q1 (St9 a0 a))) a
    obtain ⟨u0, u1, u2⟩ := a
    exact (body9_0 N (orc T (G N) live [] N 2) (orc T (G N) live [] N 1) q1 a0 u0 u1 u2).trans hc) N a)
theorem lp4_eq (N : Nat) (a0 : ByteArray) (a : ByteArray × Int × (List Int) × (List Int)) : (orc T (G N) live [] N 2) loop4 (K4 N (orc T (G N) live [] N 2)) (St4 a0 a) = lp4 N a0 a :=
  (orc_loop (b := body4) (live := [3, 4, 5, 6]) (by kernel_rfl)).trans (iter_eq (St4 a0) _ _ (fun q1 a => by
    have hc := congrFun (congrFun (congrArg (step4 N a0) (funext fun a => lp9_eq N a0 a)) (fun a => q1 (St4 a0 a))) a
    obtain ⟨u0, u1, u2, u3⟩ := a
    exact (body4_0 N (orc T (G N) live [] N 2) (orc T (G N) live [] N 1) q1 a0 u0 u1 u2 u3).trans hc) N a)
theorem G_ok (N : Nat) : GamOK Tryz.prog (G N) := gam_ok (l := [(185, [], strings_Repeat.sp N), (125, [], impl_number.sp N), (186, [], impl_hashWords.sp N), (187, [], impl_roundWords.sp N), (188, [], impl_blockHash.sp N)]) (⟨strings_Repeat.snd N, impl_number.snd N, impl_hashWords.snd N, impl_roundWords.snd N, impl_blockHash.snd N, trivial⟩)
theorem snd (N : Nat) : Sound Tryz.prog E 132 (sp N) :=
  Mir.sound T_OK (G_ok N) mixed Tryz.func132 (c := code) (by kernel_rfl) (by kernel_rfl) (sp N) (Nat.le_of_ble_eq_true (by kernel_rfl)) live [] (by
    rintro ⟨a0, _⟩ r h
    exact ⟨N, 2, ((run N _ a0).trans (congrArg (m0 N a0) (funext fun a => lp4_eq N a0 a))).trans h⟩)
end impl_hash
namespace impl_Branch_isFork
noncomputable def code : Code := Tryz.f219.body.getD .skip
abbrev live : Live := []
noncomputable def G (N : Nat) : Ctx E := gam [(131, [], impl_within.sp N)]
noncomputable def m0 (N : Nat) (a0 : Branch) : Option R :=
  bif (seq a0.Key ByteArray.empty) then
    bif (bif true then (seq a0.Value ByteArray.empty) else false) then
      ob (impl_within.m N a0.At (0:Int) (255:Int)) fun y1 =>
      bif (bif true then y1 else false) then
        some (bif true then ((a0.Kids.length : Int) == (2:Int)) else false)
      else
      some false
    else
    some false
  else
  some false
theorem run (N : Nat) (o0 : Orc E R) (a0 : Branch) : runF T (G N) live [] Tryz.f219 code (sp N) o0 (a0, ()) = m0 N a0 := by kernel_rfl
theorem G_ok (N : Nat) : GamOK Tryz.prog (G N) := gam_ok (l := [(131, [], impl_within.sp N)]) (⟨impl_within.snd N, trivial⟩)
theorem snd (N : Nat) : Sound Tryz.prog E 219 (sp N) :=
  Mir.sound T_OK (G_ok N) mixed Tryz.func219 (c := code) (by kernel_rfl) (by kernel_rfl) (sp N) (Nat.le_of_ble_eq_true (by kernel_rfl)) live [] (by
    rintro ⟨a0, _⟩ r h
    exact ⟨N, 2, ((run N _ a0).trans rfl).trans h⟩)
end impl_Branch_isFork
namespace impl_bit
noncomputable def code : Code := Tryz.f179.body.getD .skip
abbrev live : Live := []
noncomputable def G (N : Nat) : Ctx E := gam []
noncomputable def m0 (N : Nat) (a0 : ByteArray) (a1 : Int) : Option R :=
  bif (!decide ((8:Int) = 0)) then
  bif (decide (0 ≤ (w64 (Int.tdiv a1 (8:Int))))) then
  bif (decide ((w64 (Int.tdiv a1 (8:Int))) < (a0.size : Int))) then
  bif (!decide ((8:Int) = 0)) then
  bif (!decide ((w64 ((7:Int) - (Int.tmod a1 (8:Int)))) < 0)) then
  (let w1 : Int := (ibit .and .i64 (w64 (Int.fdiv (sb a0 (w64 (Int.tdiv a1 (8:Int)))) (2 ^ (min (Int.toNat (w64 ((7:Int) - (Int.tmod a1 (8:Int))))) 8)))) (1:Int))
  some w1)
  else none
  else none
  else none
  else none
  else none
theorem run (N : Nat) (o0 : Orc E R) (a0 : ByteArray) (a1 : Int) : runF T (G N) live [] Tryz.f179 code (sp N) o0 (a0, a1, ()) = m0 N a0 a1 := by kernel_rfl
theorem G_ok (N : Nat) : GamOK Tryz.prog (G N) := gam_ok (l := []) (trivial)
theorem snd (N : Nat) : Sound Tryz.prog E 179 (sp N) :=
  Mir.sound T_OK (G_ok N) mixed Tryz.func179 (c := code) (by kernel_rfl) (by kernel_rfl) (sp N) (Nat.le_of_ble_eq_true (by kernel_rfl)) live [] (by
    rintro ⟨a0, a1, _⟩ r h
    exact ⟨N, 2, ((run N _ a0 a1).trans rfl).trans h⟩)
end impl_bit
namespace impl_Branch_pairs_1
noncomputable def code : Code := Tryz.f221.body.getD .skip
abbrev live : Live := []
noncomputable def G (N : Nat) : Ctx E := gam [(179, [], impl_bit.sp N)]
noncomputable def m0 (N : Nat) (a0 : pairOf) (a1 : Branch) (a2 : Int) : Option R :=
  ob (impl_bit.m N a0.hash a1.At) fun y1 =>
  some (y1 != a2)
theorem run (N : Nat) (o0 : Orc E R) (a0 : pairOf) (a1 : Branch) (a2 : Int) : runF T (G N) live [] Tryz.f221 code (sp N) o0 (a0, a1, a2, ()) = m0 N a0 a1 a2 := by kernel_rfl
theorem G_ok (N : Nat) : GamOK Tryz.prog (G N) := gam_ok (l := [(179, [], impl_bit.sp N)]) (⟨impl_bit.snd N, trivial⟩)
theorem snd (N : Nat) : Sound Tryz.prog E 221 (sp N) :=
  Mir.sound T_OK (G_ok N) mixed Tryz.func221 (c := code) (by kernel_rfl) (by kernel_rfl) (sp N) (Nat.le_of_ble_eq_true (by kernel_rfl)) live [] (by
    rintro ⟨a0, a1, a2, _⟩ r h
    exact ⟨N, 2, ((run N _ a0 a1 a2).trans rfl).trans h⟩)
end impl_Branch_pairs_1
namespace slices_IndexFunc_impl_pairOf_impl_pairOf__impl_Branch_pairs_1
noncomputable def code : Code := Tryz.f180.body.getD .skip
abbrev live : Live := [(2, [0, 1, 7, 8])]
noncomputable def G (N : Nat) : Ctx E := gam [(221, [], impl_Branch_pairs_1.sp N)]
noncomputable def loop2 : Code := codeAt code [1, 0, 1, 0]
noncomputable def body2 : Code := codeAt loop2 [0]
noncomputable def K2 (N : Nat) (o0 : Orc E R) : KT E R := kAt T (G N) live [] o0 code [1, 0, 1, 0] (kfin T Tryz.f180 (sp N))
noncomputable def St2 (a0 : List pairOf) (a1_0 : Branch) (a1_1 : Int) : (Int × Int) → St E
  | (v1, v2) => { ρ := [(0, .c (.at (.ro 180 (.st 180) a0))), (1, .clo 221 [.at (.ptr 0 0), .at (.ptr 1 0)]), (7, .c (.at (.int .i64 v1))), (8, .c (.at (.int .i64 v2)))], H := [(0, .rbx [.str a1_0.Key, .str a1_0.Value, .int .i64 a1_0.At, .ro 27 (.st 27) a1_0.Kids]), (1, .rbx [.int .i64 a1_1])], nx := 2, n := 19, pin := [] }
noncomputable def m0 (N : Nat) (a0 : List pairOf) (a1_0 : Branch) (a1_1 : Int) (lp2 : Int × Int → Option R) : Option R :=
  lp2 ((a0.length : Int), (0:Int))
theorem run (N : Nat) (o0 : Orc E R) (a0 : List pairOf) (a1_0 : Branch) (a1_1 : Int) : runF T (G N) live [] Tryz.f180 code (sp N) o0 (a0, (a1_0, a1_1, ()), ()) = m0 N a0 a1_0 a1_1 (fun a => o0 loop2 (K2 N o0) (St2 a0 a1_0 a1_1 a)) := by kernel_rfl
theorem body2_0 (N : Nat) (o0 : Orc E R) (o1 : Orc E R) (q1 : St E → Option R) (a0 : List pairOf) (a1_0 : Branch) (a1_1 : Int) (v1 : Int) (v2 : Int) : runA T (G N) live [] o1 body2 (St2 a0 a1_0 a1_1 (v1, v2)) (kloop [0, 1, 7, 8] q1 (K2 N o0)) = step2 N a0 a1_0 a1_1 (fun a => q1 (St2 a0 a1_0 a1_1 a)) (v1, v2) := by kernel_rfl
theorem lp2_eq (N : Nat) (a0 : List pairOf) (a1_0 : Branch) (a1_1 : Int) (a : Int × Int) : (orc T (G N) live [] N 2) loop2 (K2 N (orc T (G N) live [] N 2)) (St2 a0 a1_0 a1_1 a) = lp2 N a0 a1_0 a1_1 a :=
  (orc_loop (b := body2) (live := [0, 1, 7, 8]) (by kernel_rfl)).trans (iter_eq (St2 a0 a1_0 a1_1) _ _ (fun q1 a => by
    have hc := congrFun (congrFun (rfl : (step2 N a0 a1_0 a1_1) = (step2 N a0 a1_0 a1_1)) (fun a => q1 (St2 a0 a1_0 a1_1 a))) a
    obtain ⟨u0, u1⟩ := a
    exact (body2_0 N (orc T (G N) live [] N 2) (orc T (G N) live [] N 1) q1 a0 a1_0 a1_1 u0 u1).trans hc) N a)
theorem G_ok (N : Nat) : GamOK Tryz.prog (G N) := gam_ok (l := [(221, [], impl_Branch_pairs_1.sp N)]) (⟨impl_Branch_pairs_1.snd N, trivial⟩)
theorem snd (N : Nat) : Sound Tryz.prog E 180 (sp N) :=
  Mir.sound T_OK (G_ok N) mixed Tryz.func180 (c := code) (by kernel_rfl) (by kernel_rfl) (sp N) (Nat.le_of_ble_eq_true (by kernel_rfl)) live [] (by
    rintro ⟨a0, ⟨a1_0, a1_1, _⟩, _⟩ r h
    exact ⟨N, 2, ((run N _ a0 a1_0 a1_1).trans (congrArg (m0 N a0 a1_0 a1_1) (funext fun a => lp2_eq N a0 a1_0 a1_1 a))).trans h⟩)
end slices_IndexFunc_impl_pairOf_impl_pairOf__impl_Branch_pairs_1
end Mir.Y
