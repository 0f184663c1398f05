/- The models are what the functions do. -/
import Derived.Test.YtigmgeablmomnaaOM2
namespace Mir.Y
set_option linter.unusedVariables false
set_option maxRecDepth 10000
open Go Go.Proofs Mir
namespace laws_szEntry
noncomputable def code : Code := Try.f120.body.getD .skip
abbrev live : Live := []
noncomputable def G (N : Nat) : Ctx E := gam []
noncomputable def m0 (N : Nat) (a0 : Entry) (a1 : Int) : Option R :=
  bif (decide ((w64 (a1 - (a0.Data.size : Int))) < (0:Int))) then
    some (-1:Int)
  else
  some (w64 (a1 - (a0.Data.size : Int)))
theorem run (N : Nat) (o0 : Orc E R) (a0 : Entry) (a1 : Int) : runF T (G N) live [] Try.f120 code (sp N) o0 (a0, a1, ()) = m0 N a0 a1 := by kernel_rfl
theorem G_ok (N : Nat) : GamOK Try.prog (G N) := gam_ok (l := []) (trivial)
theorem snd (N : Nat) : Sound Try.prog E 120 (sp N) :=
  Mir.sound T_OK (G_ok N) mixed Try.func120 (c := code) (by kernel_rfl) (by kernel_rfl) (sp N) (Nat.le_of_ble_eq_true (by kernel_rfl)) live [] (by
    rintro ⟨a0, a1, _⟩ r h
    exact ⟨N, 2, ((run N _ a0 a1).trans rfl).trans h⟩)
end laws_szEntry
namespace laws_szEntryS
noncomputable def code : Code := Try.f63.body.getD .skip
abbrev live : Live := [(5, [0, 1, 5])]
noncomputable def G (N : Nat) : Ctx E := gam [(120, [], laws_szEntry.sp N)]
noncomputable def loop5 : Code := codeAt code [1, 1, 1, 0, 1, 0]
noncomputable def body5 : Code := codeAt loop5 [0]
noncomputable def K5 (N : Nat) (o0 : Orc E R) : KT E R := kAt T (G N) live [] o0 code [1, 1, 1, 0, 1, 0] (kfin T Try.f63 (sp N))
noncomputable def St5 (a0 : List Entry) (a1 : Int) : (Int × Int) → St E
  | (v1, v2) => { ρ := [(0, .c (.at (.ro 138 (.st 138) a0))), (1, .c (.at (.int .i64 v1))), (5, .c (.at (.int .i64 v2)))], H := [], nx := 0, n := 27, pin := [] }
noncomputable def m0 (N : Nat) (a0 : List Entry) (a1 : Int) (lp5 : Int × Int → Option R) : Option R :=
  bif (decide ((w64 (a1 - (a0.length : Int))) < (0:Int))) then
    some (-1:Int)
  else
  lp5 ((w64 (a1 - (a0.length : Int))), (0:Int))
theorem run (N : Nat) (o0 : Orc E R) (a0 : List Entry) (a1 : Int) : runF T (G N) live [] Try.f63 code (sp N) o0 (a0, a1, ()) = m0 N a0 a1 (fun a => o0 loop5 (K5 N o0) (St5 a0 a1 a)) := by kernel_rfl
theorem body5_0 (N : Nat) (o0 : Orc E R) (o1 : Orc E R) (q1 : St E → Option R) (a0 : List Entry) (a1 : Int) (v1 : Int) (v2 : Int) : runA T (G N) live [] o1 body5 (St5 a0 a1 (v1, v2)) (kloop [0, 1, 5] q1 (K5 N o0)) = step5 N a0 a1 (fun a => q1 (St5 a0 a1 a)) (v1, v2) := by kernel_rfl
theorem lp5_eq (N : Nat) (a0 : List Entry) (a1 : Int) (a : Int × Int) : (orc T (G N) live [] N 2) loop5 (K5 N (orc T (G N) live [] N 2)) (St5 a0 a1 a) = lp5 N a0 a1 a :=
  (orc_loop (b := body5) (live := [0, 1, 5]) (by kernel_rfl)).trans (iter_eq (St5 a0 a1) _ _ (fun q1 a => by
    have hc := congrFun (congrFun (rfl : (step5 N a0 a1) = (step5 N a0 a1)) (fun a => q1 (St5 a0 a1 a))) a
    obtain ⟨u0, u1⟩ := a
    exact (body5_0 N (orc T (G N) live [] N 2) (orc T (G N) live [] N 1) q1 a0 a1 u0 u1).trans hc) N a)
theorem G_ok (N : Nat) : GamOK Try.prog (G N) := gam_ok (l := [(120, [], laws_szEntry.sp N)]) (⟨laws_szEntry.snd N, trivial⟩)
theorem snd (N : Nat) : Sound Try.prog E 63 (sp N) :=
  Mir.sound T_OK (G_ok N) mixed Try.func63 (c := code) (by kernel_rfl) (by kernel_rfl) (sp N) (Nat.le_of_ble_eq_true (by kernel_rfl)) live [] (by
    rintro ⟨a0, a1, _⟩ r h
    exact ⟨N, 2, ((run N _ a0 a1).trans (congrArg (m0 N a0 a1) (funext fun a => lp5_eq N a0 a1 a))).trans h⟩)
end laws_szEntryS
namespace laws_szIntS
noncomputable def code : Code := Try.f64.body.getD .skip
abbrev live : Live := []
noncomputable def G (N : Nat) : Ctx E := gam []
noncomputable def m0 (N : Nat) (a0 : List Int) (a1 : Int) : Option R :=
  bif (decide ((w64 (a1 - (a0.length : Int))) < (0:Int))) then
    some (-1:Int)
  else
  some (w64 (a1 - (a0.length : Int)))
theorem run (N : Nat) (o0 : Orc E R) (a0 : List Int) (a1 : Int) : runF T (G N) live [] Try.f64 code (sp N) o0 (a0, a1, ()) = m0 N a0 a1 := by kernel_rfl
theorem G_ok (N : Nat) : GamOK Try.prog (G N) := gam_ok (l := []) (trivial)
theorem snd (N : Nat) : Sound Try.prog E 64 (sp N) :=
  Mir.sound T_OK (G_ok N) mixed Try.func64 (c := code) (by kernel_rfl) (by kernel_rfl) (sp N) (Nat.le_of_ble_eq_true (by kernel_rfl)) live [] (by
    rintro ⟨a0, a1, _⟩ r h
    exact ⟨N, 2, ((run N _ a0 a1).trans rfl).trans h⟩)
end laws_szIntS
namespace laws_szNode
noncomputable def code : Code := Try.f22.body.getD .skip
abbrev live : Live := []
noncomputable def G (N : Nat) : Ctx E := gam [(63, [], laws_szEntryS.sp N), (64, [], laws_szIntS.sp N)]
noncomputable def m0 (N : Nat) (a0 : Node) (a1 : Int) : Option R :=
  ob (laws_szEntryS.m N a0.Log a1) fun y1 =>
  bif (decide (y1 < (0:Int))) then
    some (-1:Int)
  else
  ob (laws_szIntS.m N a0.Start y1) fun y2 =>
  bif (decide (y2 < (0:Int))) then
    some (-1:Int)
  else
  ob (laws_szIntS.m N a0.Votes y2) fun y3 =>
  bif (decide (y3 < (0:Int))) then
    some (-1:Int)
  else
  ob (laws_szIntS.m N a0.Next y3) fun y4 =>
  bif (decide (y4 < (0:Int))) then
    some (-1:Int)
  else
  ob (laws_szIntS.m N a0.Match y4) fun y5 =>
  bif (decide (y5 < (0:Int))) then
    some (-1:Int)
  else
  some y5
theorem run (N : Nat) (o0 : Orc E R) (a0 : Node) (a1 : Int) : runF T (G N) live [] Try.f22 code (sp N) o0 (a0, a1, ()) = m0 N a0 a1 := by kernel_rfl
theorem G_ok (N : Nat) : GamOK Try.prog (G N) := gam_ok (l := [(63, [], laws_szEntryS.sp N), (64, [], laws_szIntS.sp N)]) (⟨laws_szEntryS.snd N, laws_szIntS.snd N, trivial⟩)
theorem snd (N : Nat) : Sound Try.prog E 22 (sp N) :=
  Mir.sound T_OK (G_ok N) mixed Try.func22 (c := code) (by kernel_rfl) (by kernel_rfl) (sp N) (Nat.le_of_ble_eq_true (by kernel_rfl)) live [] (by
    rintro ⟨a0, a1, _⟩ r h
    exact ⟨N, 2, ((run N _ a0 a1).trans rfl).trans h⟩)
end laws_szNode
namespace laws_toEntry
noncomputable def code : Code := Try.f122.body.getD .skip
abbrev live : Live := []
noncomputable def G (N : Nat) : Ctx E := gam []
noncomputable def m0 (N : Nat) (a0 : Entry) : Option R :=
  some a0
theorem run (N : Nat) (o0 : Orc E R) (a0 : Entry) : runF T (G N) live [] Try.f122 code (sp N) o0 (a0, ()) = m0 N a0 := by kernel_rfl
theorem G_ok (N : Nat) : GamOK Try.prog (G N) := gam_ok (l := []) (trivial)
theorem snd (N : Nat) : Sound Try.prog E 122 (sp N) :=
  Mir.sound T_OK (G_ok N) mixed Try.func122 (c := code) (by kernel_rfl) (by kernel_rfl) (sp N) (Nat.le_of_ble_eq_true (by kernel_rfl)) live [] (by
    rintro ⟨a0, _⟩ r h
    exact ⟨N, 2, ((run N _ a0).trans rfl).trans h⟩)
end laws_toEntry
namespace laws_toEntryS
noncomputable def code : Code := Try.f66.body.getD .skip
abbrev live : Live := [(3, [0, 3, 4])]
noncomputable def G (N : Nat) : Ctx E := gam [(122, [], laws_toEntry.sp N)]
noncomputable def loop3 : Code := codeAt code [1, 1, 0, 1, 0]
noncomputable def body3 : Code := codeAt loop3 [0]
noncomputable def K3 (N : Nat) (o0 : Orc E R) : KT E R := kAt T (G N) live [] o0 code [1, 1, 0, 1, 0] (kfin T Try.f66 (sp N))
noncomputable def St3 (a0 : List Entry) : (Int × (List Entry)) → St E
  | (v1, v2) => { ρ := [(0, .c (.at (.ro 138 (.st 138) a0))), (3, .c (.at (.own 0))), (4, .c (.at (.int .i64 v1)))], H := [(0, .row 96 (.st 96) v2 false)], nx := 1, n := 23, pin := [] }
noncomputable def m0 (N : Nat) (a0 : List Entry) (lp3 : Int × (List Entry) → Option R) : Option R :=
  bif (decide (0 ≤ (a0.length : Int))) then
  bif (room (Int.toNat (a0.length : Int)) 32) then
  lp3 ((0:Int), (List.replicate (Int.toNat (a0.length : Int)) (Entry.mk (0:Int) (0:Int) ByteArray.empty)))
  else none
  else none
theorem run (N : Nat) (o0 : Orc E R) (a0 : List Entry) : runF T (G N) live [] Try.f66 code (sp N) o0 (a0, ()) = m0 N a0 (fun a => o0 loop3 (K3 N o0) (St3 a0 a)) := by kernel_rfl
theorem body3_0 (N : Nat) (o0 : Orc E R) (o1 : Orc E R) (q1 : St E → Option R) (a0 : List Entry) (v1 : Int) (v2 : List Entry) : runA T (G N) live [] o1 body3 (St3 a0 (v1, v2)) (kloop [0, 3, 4] q1 (K3 N o0)) = step3 N a0 (fun a => q1 (St3 a0 a)) (v1, v2) := by kernel_rfl
theorem lp3_eq (N : Nat) (a0 : List Entry) (a : Int × (List Entry)) : (orc T (G N) live [] N 2) loop3 (K3 N (orc T (G N) live [] N 2)) (St3 a0 a) = lp3 N a0 a :=
  (orc_loop (b := body3) (live := [0, 3, 4]) (by kernel_rfl)).trans (iter_eq (St3 a0) _ _ (fun q1 a => by
    have hc := congrFun (congrFun (rfl : (step3 N a0) = (step3 N a0)) (fun a => q1 (St3 a0 a))) a
    obtain ⟨u0, u1⟩ := a
    exact (body3_0 N (orc T (G N) live [] N 2) (orc T (G N) live [] N 1) q1 a0 u0 u1).trans hc) N a)
theorem G_ok (N : Nat) : GamOK Try.prog (G N) := gam_ok (l := [(122, [], laws_toEntry.sp N)]) (⟨laws_toEntry.snd N, trivial⟩)
theorem snd (N : Nat) : Sound Try.prog E 66 (sp N) :=
  Mir.sound T_OK (G_ok N) mixed Try.func66 (c := code) (by kernel_rfl) (by kernel_rfl) (sp N) (Nat.le_of_ble_eq_true (by kernel_rfl)) live [] (by
    rintro ⟨a0, _⟩ r h
    exact ⟨N, 2, ((run N _ a0).trans (congrArg (m0 N a0) (funext fun a => lp3_eq N a0 a))).trans h⟩)
end laws_toEntryS
namespace laws_toIntS
noncomputable def code : Code := Try.f15.body.getD .skip
abbrev live : Live := [(3, [0, 3, 4])]
noncomputable def G (N : Nat) : Ctx E := gam []
noncomputable def loop3 : Code := codeAt code [1, 1, 0, 1, 0]
noncomputable def body3 : Code := codeAt loop3 [0]
noncomputable def K3 (N : Nat) (o0 : Orc E R) : KT E R := kAt T (G N) live [] o0 code [1, 1, 0, 1, 0] (kfin T Try.f15 (sp N))
noncomputable def St3 (a0 : List Int) : (Int × (List Int)) → St E
  | (v1, v2) => { ρ := [(0, .c (.at (.ro 3 (.int .i64) a0))), (3, .c (.at (.own 0))), (4, .c (.at (.int .i64 v1)))], H := [(0, .row 3 (.int .i64) v2 false)], nx := 1, n := 22, pin := [] }
noncomputable def m0 (N : Nat) (a0 : List Int) (lp3 : Int × (List Int) → Option R) : Option R :=
  bif (decide (0 ≤ (a0.length : Int))) then
  bif (room (Int.toNat (a0.length : Int)) 8) then
  lp3 ((0:Int), (List.replicate (Int.toNat (a0.length : Int)) (0:Int)))
  else none
  else none
theorem run (N : Nat) (o0 : Orc E R) (a0 : List Int) : runF T (G N) live [] Try.f15 code (sp N) o0 (a0, ()) = m0 N a0 (fun a => o0 loop3 (K3 N o0) (St3 a0 a)) := by kernel_rfl
theorem body3_0 (N : Nat) (o0 : Orc E R) (o1 : Orc E R) (q1 : St E → Option R) (a0 : List Int) (v1 : Int) (v2 : List Int) : runA T (G N) live [] o1 body3 (St3 a0 (v1, v2)) (kloop [0, 3, 4] q1 (K3 N o0)) = step3 N a0 (fun a => q1 (St3 a0 a)) (v1, v2) := by kernel_rfl
theorem lp3_eq (N : Nat) (a0 : List Int) (a : Int × (List Int)) : (orc T (G N) live [] N 2) loop3 (K3 N (orc T (G N) live [] N 2)) (St3 a0 a) = lp3 N a0 a :=
  (orc_loop (b := body3) (live := [0, 3, 4]) (by kernel_rfl)).trans (iter_eq (St3 a0) _ _ (fun q1 a => by
    have hc := congrFun (congrFun (rfl : (step3 N a0) = (step3 N a0)) (fun a => q1 (St3 a0 a))) a
    obtain ⟨u0, u1⟩ := a
    exact (body3_0 N (orc T (G N) live [] N 2) (orc T (G N) live [] N 1) q1 a0 u0 u1).trans hc) N a)
theorem G_ok (N : Nat) : GamOK Try.prog (G N) := gam_ok (l := []) (trivial)
theorem snd (N : Nat) : Sound Try.prog E 15 (sp N) :=
  Mir.sound T_OK (G_ok N) mixed Try.func15 (c := code) (by kernel_rfl) (by kernel_rfl) (sp N) (Nat.le_of_ble_eq_true (by kernel_rfl)) live [] (by
    rintro ⟨a0, _⟩ r h
    exact ⟨N, 2, ((run N _ a0).trans (congrArg (m0 N a0) (funext fun a => lp3_eq N a0 a))).trans h⟩)
end laws_toIntS
namespace laws_toNode
noncomputable def code : Code := Try.f24.body.getD .skip
abbrev live : Live := []
noncomputable def G (N : Nat) : Ctx E := gam [(66, [], laws_toEntryS.sp N), (15, [], laws_toIntS.sp N)]
noncomputable def m0 (N : Nat) (a0 : Node) : Option R :=
  ob (laws_toEntryS.m N a0.Log) fun y1 =>
  ob (laws_toIntS.m N a0.Start) fun y2 =>
  ob (laws_toIntS.m N a0.Votes) fun y3 =>
  ob (laws_toIntS.m N a0.Next) fun y4 =>
  ob (laws_toIntS.m N a0.Match) fun y5 =>
  some (Node.mk a0.Id a0.Term a0.Vote y1 y2 a0.Role y3 y4 y5 a0.Commit a0.Elapsed a0.Wait a0.Up)
theorem run (N : Nat) (o0 : Orc E R) (a0 : Node) : runF T (G N) live [] Try.f24 code (sp N) o0 (a0, ()) = m0 N a0 := by kernel_rfl
theorem G_ok (N : Nat) : GamOK Try.prog (G N) := gam_ok (l := [(66, [], laws_toEntryS.sp N), (15, [], laws_toIntS.sp N)]) (⟨laws_toEntryS.snd N, laws_toIntS.snd N, trivial⟩)
theorem snd (N : Nat) : Sound Try.prog E 24 (sp N) :=
  Mir.sound T_OK (G_ok N) mixed Try.func24 (c := code) (by kernel_rfl) (by kernel_rfl) (sp N) (Nat.le_of_ble_eq_true (by kernel_rfl)) live [] (by
    rintro ⟨a0, _⟩ r h
    exact ⟨N, 2, ((run N _ a0).trans rfl).trans h⟩)
end laws_toNode
namespace spec_l01In
noncomputable def code : Code := Try.f53.body.getD .skip
abbrev live : Live := []
noncomputable def G (N : Nat) : Ctx E := gam []
noncomputable def m0 (N : Nat) (a0 : Int) (a1 : Int) (a2 : Int) : Option R :=
  bif (decide (a0 ≥ a1)) then
    some (bif true then (decide (a0 ≤ a2)) else false)
  else
  some false
theorem run (N : Nat) (o0 : Orc E R) (a0 : Int) (a1 : Int) (a2 : Int) : runF T (G N) live [] Try.f53 code (sp N) o0 (a0, a1, a2, ()) = m0 N a0 a1 a2 := by kernel_rfl
theorem G_ok (N : Nat) : GamOK Try.prog (G N) := gam_ok (l := []) (trivial)
theorem snd (N : Nat) : Sound Try.prog E 53 (sp N) :=
  Mir.sound T_OK (G_ok N) mixed Try.func53 (c := code) (by kernel_rfl) (by kernel_rfl) (sp N) (Nat.le_of_ble_eq_true (by kernel_rfl)) live [] (by
    rintro ⟨a0, a1, a2, _⟩ r h
    exact ⟨N, 2, ((run N _ a0 a1 a2).trans rfl).trans h⟩)
end spec_l01In
namespace spec_l02Members
noncomputable def code : Code := Try.f128.body.getD .skip
abbrev live : Live := [(3, [0, 4, 5])]
noncomputable def G (N : Nat) : Ctx E := gam [(53, [], spec_l01In.sp N)]
noncomputable def loop3 : Code := codeAt code [1, 1, 0, 1, 0]
noncomputable def body3 : Code := codeAt loop3 [0]
noncomputable def K3 (N : Nat) (o0 : Orc E R) : KT E R := kAt T (G N) live [] o0 code [1, 1, 0, 1, 0] (kfin T Try.f128 (sp N))
noncomputable def St3 (a0 : ByteArray) : (Int × (List Int)) → St E
  | (v1, v2) => { ρ := [(0, .c (.at (.str a0))), (4, .c (.at (.own 0))), (5, .c (.at (.int .i64 v1)))], H := [(0, .row 3 (.int .i64) v2 false)], nx := 1, n := 45, pin := [] }
noncomputable def m0 (N : Nat) (a0 : ByteArray) (lp3 : Int × (List Int) → Option R) : Option R :=
  lp3 ((0:Int), ([] : List Int))
theorem run (N : Nat) (o0 : Orc E R) (a0 : ByteArray) : runF T (G N) live [] Try.f128 code (sp N) o0 (a0, ()) = m0 N a0 (fun a => o0 loop3 (K3 N o0) (St3 a0 a)) := by kernel_rfl
theorem body3_0 (N : Nat) (o0 : Orc E R) (o1 : Orc E R) (q1 : St E → Option R) (a0 : ByteArray) (v1 : Int) (v2 : List Int) : runA T (G N) live [] o1 body3 (St3 a0 (v1, v2)) (kloop [0, 4, 5] q1 (K3 N o0)) = step3 N a0 (fun a => q1 (St3 a0 a)) (v1, v2) := by kernel_rfl
theorem lp3_eq (N : Nat) (a0 : ByteArray) (a : Int × (List Int)) : (orc T (G N) live [] N 2) loop3 (K3 N (orc T (G N) live [] N 2)) (St3 a0 a) = lp3 N a0 a :=
  (orc_loop (b := body3) (live := [0, 4, 5]) (by kernel_rfl)).trans (iter_eq (St3 a0) _ _ (fun q1 a => by
    have hc := congrFun (congrFun (rfl : (step3 N a0) = (step3 N a0)) (fun a => q1 (St3 a0 a))) a
    obtain ⟨u0, u1⟩ := a
    exact (body3_0 N (orc T (G N) live [] N 2) (orc T (G N) live [] N 1) q1 a0 u0 u1).trans hc) N a)
theorem G_ok (N : Nat) : GamOK Try.prog (G N) := gam_ok (l := [(53, [], spec_l01In.sp N)]) (⟨spec_l01In.snd N, trivial⟩)
theorem snd (N : Nat) : Sound Try.prog E 128 (sp N) :=
  Mir.sound T_OK (G_ok N) mixed Try.func128 (c := code) (by kernel_rfl) (by kernel_rfl) (sp N) (Nat.le_of_ble_eq_true (by kernel_rfl)) live [] (by
    rintro ⟨a0, _⟩ r h
    exact ⟨N, 2, ((run N _ a0).trans (congrArg (m0 N a0) (funext fun a => lp3_eq N a0 a))).trans h⟩)
end spec_l02Members
namespace spec_l02Entry
noncomputable def code : Code := Try.f121.body.getD .skip
abbrev live : Live := []
noncomputable def G (N : Nat) : Ctx E := gam [(53, [], spec_l01In.sp N), (128, [], spec_l02Members.sp N)]
noncomputable def m0 (N : Nat) (a0 : Entry) : Option R :=
  ob (spec_l01In.m N a0.Term (1:Int) (1000000:Int)) fun y1 =>
  bif (!y1) then
    some false
  else
  bif (a0.Kind == (0:Int)) then
    some (seq a0.Data ByteArray.empty)
  else
  bif (a0.Kind == (1:Int)) then
    bif (decide ((a0.Data.size : Int) ≥ (1:Int))) then
      some (bif true then (decide ((a0.Data.size : Int) ≤ (100:Int))) else false)
    else
    some false
  else
  bif (a0.Kind == (2:Int)) then
    ob (spec_l02Members.m N a0.Data) fun y2 =>
    some y2.2
  else
  some false
theorem run (N : Nat) (o0 : Orc E R) (a0 : Entry) : runF T (G N) live [] Try.f121 code (sp N) o0 (a0, ()) = m0 N a0 := by kernel_rfl
theorem G_ok (N : Nat) : GamOK Try.prog (G N) := gam_ok (l := [(53, [], spec_l01In.sp N), (128, [], spec_l02Members.sp N)]) (⟨spec_l01In.snd N, spec_l02Members.snd N, trivial⟩)
theorem snd (N : Nat) : Sound Try.prog E 121 (sp N) :=
  Mir.sound T_OK (G_ok N) mixed Try.func121 (c := code) (by kernel_rfl) (by kernel_rfl) (sp N) (Nat.le_of_ble_eq_true (by kernel_rfl)) live [] (by
    rintro ⟨a0, _⟩ r h
    exact ⟨N, 2, ((run N _ a0).trans rfl).trans h⟩)
end spec_l02Entry
namespace spec_StateOK
noncomputable def code : Code := Try.f65.body.getD .skip
abbrev live : Live := [(4, [1, 3])]
noncomputable def G (N : Nat) : Ctx E := gam [(53, [], spec_l01In.sp N), (121, [], spec_l02Entry.sp N)]
noncomputable def loop4 : Code := codeAt code [1, 1, 0, 1, 0]
noncomputable def body4 : Code := codeAt loop4 [0]
noncomputable def K4 (N : Nat) (o0 : Orc E R) : KT E R := kAt T (G N) live [] o0 code [1, 1, 0, 1, 0] (kfin T Try.f65 (sp N))
noncomputable def St4 (a0 : State) : Int → St E
  | v0 => { ρ := [(1, .c (.at (.ptr 0 0))), (3, .c (.at (.int .i64 v0)))], H := [(0, .box 86 [.int .i64 a0.Term, .int .i64 a0.Vote, .ro 96 (.st 96) a0.Log])], nx := 1, n := 65, pin := [] }
noncomputable def m0 (N : Nat) (a0 : State) (lp4 : Int → Option R) : Option R :=
  ob (spec_l01In.m N a0.Term (0:Int) (1000000:Int)) fun y1 =>
  bif (!y1) then
    some false
  else
  ob (spec_l01In.m N a0.Vote (-1:Int) (6:Int)) fun y2 =>
  bif (bif false then true else (!y2)) then
    some false
  else
  bif (bif false then true else (decide ((a0.Log.length : Int) > (60:Int)))) then
    some false
  else
  lp4 (0:Int)
theorem run (N : Nat) (o0 : Orc E R) (a0 : State) : runF T (G N) live [] Try.f65 code (sp N) o0 (a0, ()) = m0 N a0 (fun a => o0 loop4 (K4 N o0) (St4 a0 a)) := by kernel_rfl
theorem body4_0 (N : Nat) (o0 : Orc E R) (o1 : Orc E R) (q1 : St E → Option R) (a0 : State) (v0 : Int) : runA T (G N) live [] o1 body4 (St4 a0 v0) (kloop [1, 3] q1 (K4 N o0)) = step4 N a0 (fun a => q1 (St4 a0 a)) v0 := by kernel_rfl
theorem lp4_eq (N : Nat) (a0 : State) (a : Int) : (orc T (G N) live [] N 2) loop4 (K4 N (orc T (G N) live [] N 2)) (St4 a0 a) = lp4 N a0 a :=
  (orc_loop (b := body4) (live := [1, 3]) (by kernel_rfl)).trans (iter_eq (St4 a0) _ _ (fun q1 a => by
    have hc := congrFun (congrFun (rfl : (step4 N a0) = (step4 N a0)) (fun a => q1 (St4 a0 a))) a
    exact (body4_0 N (orc T (G N) live [] N 2) (orc T (G N) live [] N 1) q1 a0 a).trans hc) N a)
theorem G_ok (N : Nat) : GamOK Try.prog (G N) := gam_ok (l := [(53, [], spec_l01In.sp N), (121, [], spec_l02Entry.sp N)]) (⟨spec_l01In.snd N, spec_l02Entry.snd N, trivial⟩)
theorem snd (N : Nat) : Sound Try.prog E 65 (sp N) :=
  Mir.sound T_OK (G_ok N) mixed Try.func65 (c := code) (by kernel_rfl) (by kernel_rfl) (sp N) (Nat.le_of_ble_eq_true (by kernel_rfl)) live [] (by
    rintro ⟨a0, _⟩ r h
    exact ⟨N, 2, ((run N _ a0).trans (congrArg (m0 N a0) (funext fun a => lp4_eq N a0 a))).trans h⟩)
end spec_StateOK
namespace spec_l10Ids
noncomputable def code : Code := Try.f54.body.getD .skip
abbrev live : Live := [(2, [0, 3])]
noncomputable def G (N : Nat) : Ctx E := gam [(53, [], spec_l01In.sp N)]
noncomputable def loop2 : Code := codeAt code [1, 0, 1, 0]
noncomputable def body2 : Code := codeAt loop2 [0]
noncomputable def K2 (N : Nat) (o0 : Orc E R) : KT E R := kAt T (G N) live [] o0 code [1, 0, 1, 0] (kfin T Try.f54 (sp N))
noncomputable def St2 (a0 : List Int) : Int → St E
  | v1 => { ρ := [(0, .c (.at (.ro 3 (.int .i64) a0))), (3, .c (.at (.int .i64 v1)))], H := [], nx := 0, n := 32, pin := [] }
noncomputable def m0 (N : Nat) (a0 : List Int) (lp2 : Int → Option R) : Option R :=
  lp2 (0:Int)
theorem run (N : Nat) (o0 : Orc E R) (a0 : List Int) : runF T (G N) live [] Try.f54 code (sp N) o0 (a0, ()) = m0 N a0 (fun a => o0 loop2 (K2 N o0) (St2 a0 a)) := by kernel_rfl
theorem body2_0 (N : Nat) (o0 : Orc E R) (o1 : Orc E R) (q1 : St E → Option R) (a0 : List Int) (v1 : Int) : runA T (G N) live [] o1 body2 (St2 a0 v1) (kloop [0, 3] q1 (K2 N o0)) = step2 N a0 (fun a => q1 (St2 a0 a)) v1 := by kernel_rfl
theorem lp2_eq (N : Nat) (a0 : List Int) (a : Int) : (orc T (G N) live [] N 2) loop2 (K2 N (orc T (G N) live [] N 2)) (St2 a0 a) = lp2 N a0 a :=
  (orc_loop (b := body2) (live := [0, 3]) (by kernel_rfl)).trans (iter_eq (St2 a0) _ _ (fun q1 a => by
    have hc := congrFun (congrFun (rfl : (step2 N a0) = (step2 N a0)) (fun a => q1 (St2 a0 a))) a
    exact (body2_0 N (orc T (G N) live [] N 2) (orc T (G N) live [] N 1) q1 a0 a).trans hc) N a)
theorem G_ok (N : Nat) : GamOK Try.prog (G N) := gam_ok (l := [(53, [], spec_l01In.sp N)]) (⟨spec_l01In.snd N, trivial⟩)
theorem snd (N : Nat) : Sound Try.prog E 54 (sp N) :=
  Mir.sound T_OK (G_ok N) mixed Try.func54 (c := code) (by kernel_rfl) (by kernel_rfl) (sp N) (Nat.le_of_ble_eq_true (by kernel_rfl)) live [] (by
    rintro ⟨a0, _⟩ r h
    exact ⟨N, 2, ((run N _ a0).trans (congrArg (m0 N a0) (funext fun a => lp2_eq N a0 a))).trans h⟩)
end spec_l10Ids
namespace spec_NodeOK
noncomputable def code : Code := Try.f23.body.getD .skip
abbrev live : Live := [(6, [1, 3])]
noncomputable def G (N : Nat) : Ctx E := gam [(53, [], spec_l01In.sp N), (65, [], spec_StateOK.sp N), (54, [], spec_l10Ids.sp N)]
noncomputable def loop6 : Code := codeAt code [1, 1, 1, 0, 1, 0]
noncomputable def body6 : Code := codeAt loop6 [0]
noncomputable def K6 (N : Nat) (o0 : Orc E R) : KT E R := kAt T (G N) live [] o0 code [1, 1, 1, 0, 1, 0] (kfin T Try.f23 (sp N))
noncomputable def St6 (a0 : Node) : Int → St E
  | v0 => { ρ := [(1, .c (.at (.ptr 0 0))), (3, .c (.at (.int .i64 v0)))], H := [(0, .box 25 [.int .i64 a0.Id, .int .i64 a0.Term, .int .i64 a0.Vote, .ro 96 (.st 96) a0.Log, .ro 3 (.int .i64) a0.Start, .int .i64 a0.Role, .ro 3 (.int .i64) a0.Votes, .ro 3 (.int .i64) a0.Next, .ro 3 (.int .i64) a0.Match, .int .i64 a0.Commit, .int .i64 a0.Elapsed, .int .i64 a0.Wait, .bool a0.Up])], nx := 1, n := 111, pin := [] }
noncomputable def m0 (N : Nat) (a0 : Node) (lp6 : Int → Option R) : Option R :=
  ob (spec_l01In.m N a0.Id (0:Int) (6:Int)) fun y1 =>
  bif (!y1) then
    some false
  else
  ob (spec_StateOK.m N (State.mk a0.Term a0.Vote a0.Log)) fun y2 =>
  bif (bif false then true else (!y2)) then
    some false
  else
  ob (spec_l10Ids.m N a0.Start) fun y3 =>
  bif (bif false then true else (!y3)) then
    some false
  else
  bif (bif false then true else ((a0.Start.length : Int) == (0:Int))) then
    some false
  else
  ob (spec_l10Ids.m N a0.Votes) fun y4 =>
  bif (bif false then true else (!y4)) then
    some false
  else
  ob (spec_l01In.m N a0.Role (0:Int) (2:Int)) fun y5 =>
  bif (bif false then true else (!y5)) then
    some false
  else
  bif ((a0.Next.length : Int) != (7:Int)) then
    some false
  else
  bif (bif false then true else ((a0.Match.length : Int) != (7:Int))) then
    some false
  else
  ob (spec_l01In.m N a0.Commit (0:Int) (a0.Log.length : Int)) fun y6 =>
  bif (bif false then true else (!y6)) then
    some false
  else
  ob (spec_l01In.m N a0.Elapsed (0:Int) (1000:Int)) fun y7 =>
  bif (bif false then true else (!y7)) then
    some false
  else
  ob (spec_l01In.m N a0.Wait (5:Int) (100:Int)) fun y8 =>
  bif (bif false then true else (!y8)) then
    some false
  else
  lp6 (0:Int)
theorem run (N : Nat) (o0 : Orc E R) (a0 : Node) : runF T (G N) live [] Try.f23 code (sp N) o0 (a0, ()) = m0 N a0 (fun a => o0 loop6 (K6 N o0) (St6 a0 a)) := by kernel_rfl
theorem body6_0 (N : Nat) (o0 : Orc E R) (o1 : Orc E R) (q1 : St E → Option R) (a0 : Node) (v0 : Int) : runA T (G N) live [] o1 body6 (St6 a0 v0) (kloop [1, 3] q1 (K6 N o0)) = step6 N a0 (fun a => q1 (St6 a0 a)) v0 := by kernel_rfl
theorem lp6_eq (N : Nat) (a0 : Node) (a : Int) : (orc T (G N) live [] N 2) loop6 (K6 N (orc T (G N) live [] N 2)) (St6 a0 a) = lp6 N a0 a :=
  (orc_loop (b := body6) (live := [1, 3]) (by kernel_rfl)).trans (iter_eq (St6 a0) _ _ (fun q1 a => by
    have hc := congrFun (congrFun (rfl : (step6 N a0) = (step6 N a0)) (fun a => q1 (St6 a0 a))) a
    exact (body6_0 N (orc T (G N) live [] N 2) (orc T (G N) live [] N 1) q1 a0 a).trans hc) N a)
theorem G_ok (N : Nat) : GamOK Try.prog (G N) := gam_ok (l := [(53, [], spec_l01In.sp N), (65, [], spec_StateOK.sp N), (54, [], spec_l10Ids.sp N)]) (⟨spec_l01In.snd N, spec_StateOK.snd N, spec_l10Ids.snd N, trivial⟩)
theorem snd (N : Nat) : Sound Try.prog E 23 (sp N) :=
  Mir.sound T_OK (G_ok N) mixed Try.func23 (c := code) (by kernel_rfl) (by kernel_rfl) (sp N) (Nat.le_of_ble_eq_true (by kernel_rfl)) live [] (by
    rintro ⟨a0, _⟩ r h
    exact ⟨N, 2, ((run N _ a0).trans (congrArg (m0 N a0) (funext fun a => lp6_eq N a0 a))).trans h⟩)
end spec_NodeOK
namespace spec_l10Own
noncomputable def code : Code := Try.f79.body.getD .skip
abbrev live : Live := []
noncomputable def G (N : Nat) : Ctx E := gam []
noncomputable def m0 (N : Nat) (a0 : Node) : Option R :=
  bif (room (([] : List Entry).length + a0.Log.length) 32) then
  bif (room (([] : List Int).length + a0.Start.length) 8) then
  bif (room (([] : List Int).length + a0.Votes.length) 8) then
  bif (room (([] : List Int).length + a0.Next.length) 8) then
  bif (room (([] : List Int).length + a0.Match.length) 8) then
  some (Node.mk a0.Id a0.Term a0.Vote (([] : List Entry) ++ a0.Log) (([] : List Int) ++ a0.Start) a0.Role (([] : List Int) ++ a0.Votes) (([] : List Int) ++ a0.Next) (([] : List Int) ++ a0.Match) a0.Commit a0.Elapsed a0.Wait a0.Up)
  else none
  else none
  else none
  else none
  else none
theorem run (N : Nat) (o0 : Orc E R) (a0 : Node) : runF T (G N) live [] Try.f79 code (sp N) o0 (a0, ()) = m0 N a0 := by kernel_rfl
theorem G_ok (N : Nat) : GamOK Try.prog (G N) := gam_ok (l := []) (trivial)
theorem snd (N : Nat) : Sound Try.prog E 79 (sp N) :=
  Mir.sound T_OK (G_ok N) mixed Try.func79 (c := code) (by kernel_rfl) (by kernel_rfl) (sp N) (Nat.le_of_ble_eq_true (by kernel_rfl)) live [] (by
    rintro ⟨a0, _⟩ r h
    exact ⟨N, 2, ((run N _ a0).trans rfl).trans h⟩)
end spec_l10Own
namespace spec_l10Members
noncomputable def code : Code := Try.f74.body.getD .skip
abbrev live : Live := [(2, [1, 3])]
noncomputable def G (N : Nat) : Ctx E := gam [(128, [], spec_l02Members.sp N)]
noncomputable def loop2 : Code := codeAt code [1, 0, 1, 0]
noncomputable def body2 : Code := codeAt loop2 [0]
noncomputable def K2 (N : Nat) (o0 : Orc E R) : KT E R := kAt T (G N) live [] o0 code [1, 0, 1, 0] (kfin T Try.f74 (sp N))
noncomputable def St2 (a0 : Node) : Int → St E
  | v0 => { ρ := [(1, .c (.at (.ptr 0 0))), (3, .c (.at (.int .i64 v0)))], H := [(0, .box 25 [.int .i64 a0.Id, .int .i64 a0.Term, .int .i64 a0.Vote, .ro 96 (.st 96) a0.Log, .ro 3 (.int .i64) a0.Start, .int .i64 a0.Role, .ro 3 (.int .i64) a0.Votes, .ro 3 (.int .i64) a0.Next, .ro 3 (.int .i64) a0.Match, .int .i64 a0.Commit, .int .i64 a0.Elapsed, .int .i64 a0.Wait, .bool a0.Up])], nx := 1, n := 34, pin := [] }
noncomputable def m0 (N : Nat) (a0 : Node) (lp2 : Int → Option R) : Option R :=
  lp2 (w64 ((a0.Log.length : Int) - (1:Int)))
theorem run (N : Nat) (o0 : Orc E R) (a0 : Node) : runF T (G N) live [] Try.f74 code (sp N) o0 (a0, ()) = m0 N a0 (fun a => o0 loop2 (K2 N o0) (St2 a0 a)) := by kernel_rfl
theorem body2_0 (N : Nat) (o0 : Orc E R) (o1 : Orc E R) (q1 : St E → Option R) (a0 : Node) (v0 : Int) : runA T (G N) live [] o1 body2 (St2 a0 v0) (kloop [1, 3] q1 (K2 N o0)) = step2 N a0 (fun a => q1 (St2 a0 a)) v0 := by kernel_rfl
theorem lp2_eq (N : Nat) (a0 : Node) (a : Int) : (orc T (G N) live [] N 2) loop2 (K2 N (orc T (G N) live [] N 2)) (St2 a0 a) = lp2 N a0 a :=
  (orc_loop (b := body2) (live := [1, 3]) (by kernel_rfl)).trans (iter_eq (St2 a0) _ _ (fun q1 a => by
    have hc := congrFun (congrFun (rfl : (step2 N a0) = (step2 N a0)) (fun a => q1 (St2 a0 a))) a
    exact (body2_0 N (orc T (G N) live [] N 2) (orc T (G N) live [] N 1) q1 a0 a).trans hc) N a)
theorem G_ok (N : Nat) : GamOK Try.prog (G N) := gam_ok (l := [(128, [], spec_l02Members.sp N)]) (⟨spec_l02Members.snd N, trivial⟩)
theorem snd (N : Nat) : Sound Try.prog E 74 (sp N) :=
  Mir.sound T_OK (G_ok N) mixed Try.func74 (c := code) (by kernel_rfl) (by kernel_rfl) (sp N) (Nat.le_of_ble_eq_true (by kernel_rfl)) live [] (by
    rintro ⟨a0, _⟩ r h
    exact ⟨N, 2, ((run N _ a0).trans (congrArg (m0 N a0) (funext fun a => lp2_eq N a0 a))).trans h⟩)
end spec_l10Members
namespace spec_l10Has
noncomputable def code : Code := Try.f137.body.getD .skip
abbrev live : Live := [(2, [0, 1, 5])]
noncomputable def G (N : Nat) : Ctx E := gam []
noncomputable def loop2 : Code := codeAt code [1, 0, 1, 0]
noncomputable def body2 : Code := codeAt loop2 [0]
noncomputable def K2 (N : Nat) (o0 : Orc E R) : KT E R := kAt T (G N) live [] o0 code [1, 0, 1, 0] (kfin T Try.f137 (sp N))
noncomputable def St2 (a0 : List Int) (a1 : Int) : Int → St E
  | v2 => { ρ := [(0, .c (.at (.ro 3 (.int .i64) a0))), (1, .c (.at (.int .i64 a1))), (5, .c (.at (.int .i64 v2)))], H := [], nx := 0, n := 18, pin := [] }
noncomputable def m0 (N : Nat) (a0 : List Int) (a1 : Int) (lp2 : Int → Option R) : Option R :=
  lp2 (0:Int)
theorem run (N : Nat) (o0 : Orc E R) (a0 : List Int) (a1 : Int) : runF T (G N) live [] Try.f137 code (sp N) o0 (a0, a1, ()) = m0 N a0 a1 (fun a => o0 loop2 (K2 N o0) (St2 a0 a1 a)) := by kernel_rfl
theorem body2_0 (N : Nat) (o0 : Orc E R) (o1 : Orc E R) (q1 : St E → Option R) (a0 : List Int) (a1 : Int) (v2 : Int) : runA T (G N) live [] o1 body2 (St2 a0 a1 v2) (kloop [0, 1, 5] q1 (K2 N o0)) = step2 N a0 a1 (fun a => q1 (St2 a0 a1 a)) v2 := by kernel_rfl
theorem lp2_eq (N : Nat) (a0 : List Int) (a1 : Int) (a : Int) : (orc T (G N) live [] N 2) loop2 (K2 N (orc T (G N) live [] N 2)) (St2 a0 a1 a) = lp2 N a0 a1 a :=
  (orc_loop (b := body2) (live := [0, 1, 5]) (by kernel_rfl)).trans (iter_eq (St2 a0 a1) _ _ (fun q1 a => by
    have hc := congrFun (congrFun (rfl : (step2 N a0 a1) = (step2 N a0 a1)) (fun a => q1 (St2 a0 a1 a))) a
    exact (body2_0 N (orc T (G N) live [] N 2) (orc T (G N) live [] N 1) q1 a0 a1 a).trans hc) N a)
theorem G_ok (N : Nat) : GamOK Try.prog (G N) := gam_ok (l := []) (trivial)
theorem snd (N : Nat) : Sound Try.prog E 137 (sp N) :=
  Mir.sound T_OK (G_ok N) mixed Try.func137 (c := code) (by kernel_rfl) (by kernel_rfl) (sp N) (Nat.le_of_ble_eq_true (by kernel_rfl)) live [] (by
    rintro ⟨a0, a1, _⟩ r h
    exact ⟨N, 2, ((run N _ a0 a1).trans (congrArg (m0 N a0 a1) (funext fun a => lp2_eq N a0 a1 a))).trans h⟩)
end spec_l10Has
namespace spec_l01Bit
noncomputable def code : Code := Try.f152.body.getD .skip
abbrev live : Live := []
noncomputable def G (N : Nat) : Ctx E := gam []
noncomputable def m0 (N : Nat) (a0 : Bool) : Option R :=
  bif a0 then
    some (1:Int)
  else
  some (0:Int)
theorem run (N : Nat) (o0 : Orc E R) (a0 : Bool) : runF T (G N) live [] Try.f152 code (sp N) o0 (a0, ()) = m0 N a0 := by kernel_rfl
theorem G_ok (N : Nat) : GamOK Try.prog (G N) := gam_ok (l := []) (trivial)
theorem snd (N : Nat) : Sound Try.prog E 152 (sp N) :=
  Mir.sound T_OK (G_ok N) mixed Try.func152 (c := code) (by kernel_rfl) (by kernel_rfl) (sp N) (Nat.le_of_ble_eq_true (by kernel_rfl)) live [] (by
    rintro ⟨a0, _⟩ r h
    exact ⟨N, 2, ((run N _ a0).trans rfl).trans h⟩)
end spec_l01Bit
namespace spec_l10Most
noncomputable def code : Code := Try.f159.body.getD .skip
abbrev live : Live := [(3, [0, 1, 5, 6])]
noncomputable def G (N : Nat) : Ctx E := gam [(137, [], spec_l10Has.sp N), (152, [], spec_l01Bit.sp N)]
noncomputable def loop3 : Code := codeAt code [1, 1, 0, 1, 0]
noncomputable def body3 : Code := codeAt loop3 [0]
noncomputable def K3 (N : Nat) (o0 : Orc E R) : KT E R := kAt T (G N) live [] o0 code [1, 1, 0, 1, 0] (kfin T Try.f159 (sp N))
noncomputable def St3 (a0 : List Int) (a1 : List Int) : (Int × Int) → St E
  | (v2, v3) => { ρ := [(0, .c (.at (.ro 3 (.int .i64) a0))), (1, .c (.at (.ro 3 (.int .i64) a1))), (5, .c (.at (.int .i64 v2))), (6, .c (.at (.int .i64 v3)))], H := [], nx := 0, n := 27, pin := [] }
noncomputable def m0 (N : Nat) (a0 : List Int) (a1 : List Int) (lp3 : Int × Int → Option R) : Option R :=
  lp3 ((0:Int), (0:Int))
theorem run (N : Nat) (o0 : Orc E R) (a0 : List Int) (a1 : List Int) : runF T (G N) live [] Try.f159 code (sp N) o0 (a0, a1, ()) = m0 N a0 a1 (fun a => o0 loop3 (K3 N o0) (St3 a0 a1 a)) := by kernel_rfl
theorem body3_0 (N : Nat) (o0 : Orc E R) (o1 : Orc E R) (q1 : St E → Option R) (a0 : List Int) (a1 : List Int) (v2 : Int) (v3 : Int) : runA T (G N) live [] o1 body3 (St3 a0 a1 (v2, v3)) (kloop [0, 1, 5, 6] q1 (K3 N o0)) = step3 N a0 a1 (fun a => q1 (St3 a0 a1 a)) (v2, v3) := by kernel_rfl
theorem lp3_eq (N : Nat) (a0 : List Int) (a1 : List Int) (a : Int × Int) : (orc T (G N) live [] N 2) loop3 (K3 N (orc T (G N) live [] N 2)) (St3 a0 a1 a) = lp3 N a0 a1 a :=
  (orc_loop (b := body3) (live := [0, 1, 5, 6]) (by kernel_rfl)).trans (iter_eq (St3 a0 a1) _ _ (fun q1 a => by
    have hc := congrFun (congrFun (rfl : (step3 N a0 a1) = (step3 N a0 a1)) (fun a => q1 (St3 a0 a1 a))) a
    obtain ⟨u0, u1⟩ := a
    exact (body3_0 N (orc T (G N) live [] N 2) (orc T (G N) live [] N 1) q1 a0 a1 u0 u1).trans hc) N a)
theorem G_ok (N : Nat) : GamOK Try.prog (G N) := gam_ok (l := [(137, [], spec_l10Has.sp N), (152, [], spec_l01Bit.sp N)]) (⟨spec_l10Has.snd N, spec_l01Bit.snd N, trivial⟩)
theorem snd (N : Nat) : Sound Try.prog E 159 (sp N) :=
  Mir.sound T_OK (G_ok N) mixed Try.func159 (c := code) (by kernel_rfl) (by kernel_rfl) (sp N) (Nat.le_of_ble_eq_true (by kernel_rfl)) live [] (by
    rintro ⟨a0, a1, _⟩ r h
    exact ⟨N, 2, ((run N _ a0 a1).trans (congrArg (m0 N a0 a1) (funext fun a => lp3_eq N a0 a1 a))).trans h⟩)
end spec_l10Most
namespace spec_l10Advance
noncomputable def code : Code := Try.f131.body.getD .skip
abbrev live : Live := [(7, [1, 2, 3, 4, 5, 6]), (3, [1, 2, 3, 4])]
noncomputable def G (N : Nat) : Ctx E := gam [(74, [], spec_l10Members.sp N), (159, [], spec_l10Most.sp N)]
noncomputable def loop3 : Code := codeAt code [1, 1, 0, 1, 0]
noncomputable def body3 : Code := codeAt loop3 [0]
noncomputable def loop7 : Code := codeAt body3 [1, 0, 0, 1, 0, 1, 0]
noncomputable def body7 : Code := codeAt loop7 [0]
noncomputable def K3 (N : Nat) (o0 : Orc E R) : KT E R := kAt T (G N) live [] o0 code [1, 1, 0, 1, 0] (kfin T Try.f131 (sp N))
noncomputable def St3 (a0 : Node) : ((List Int) × Int × Int × Int × Int × (List Entry) × (List Int) × Int × (List Int) × (List Int) × (List Int) × Int × Int × Int × Bool × Int × Int × Int × Int × Int × Int × Int) → St E
  | (v0, v1, v2, v3, v4, v5, v6, v7, v8, v9, v10, v11, v12, v13, v14, v15, v16, v17, v18, v19, v20, v21) => { ρ := [(1, .c (.at (.ptr 0 0))), (2, .c (.at (.ptr 1 0))), (3, .c (.at (.ro 3 (.int .i64) v0))), (4, .c (.at (.int .i64 v1)))], H := [(0, .box 25 [.int .i64 v2, .int .i64 v3, .int .i64 v4, .ro 96 (.st 96) v5, .ro 3 (.int .i64) v6, .int .i64 v7, .ro 3 (.int .i64) v8, .ro 3 (.int .i64) v9, .ro 3 (.int .i64) v10, .int .i64 v11, .int .i64 v12, .int .i64 v13, .bool v14]), (1, .box 25 [.int .i64 v15, .int .i64 v16, .int .i64 v17, .nils, .nils, .int .i64 v18, .nils, .nils, .nils, .int .i64 v19, .int .i64 v20, .int .i64 v21, .bool false])], nx := 2, n := 60, pin := [] }
noncomputable def K7 (N : Nat) (o0 : Orc E R) (o1 : Orc E R) (q1 : St E → Option R) : KT E R := kAt T (G N) live [] o1 body3 [1, 0, 0, 1, 0, 1, 0] (kloop [1, 2, 3, 4] q1 (K3 N o0))
noncomputable def St7 (a0 : Node) : ((List Int) × Int × Int × Int × Int × Int × (List Entry) × (List Int) × Int × (List Int) × (List Int) × (List Int) × Int × Int × Int × Bool × Int × Int × Int × Int × Int × Int × Int × (List Int)) → St E
  | (v0, v1, v2, v3, v4, v5, v6, v7, v8, v9, v10, v11, v12, v13, v14, v15, v16, v17, v18, v19, v20, v21, v22, v23) => { ρ := [(1, .c (.at (.ptr 0 0))), (2, .c (.at (.ptr 1 0))), (3, .c (.at (.ro 3 (.int .i64) v0))), (4, .c (.at (.int .i64 v1))), (5, .c (.at (.own 2))), (6, .c (.at (.int .i64 v2)))], H := [(0, .box 25 [.int .i64 v3, .int .i64 v4, .int .i64 v5, .ro 96 (.st 96) v6, .ro 3 (.int .i64) v7, .int .i64 v8, .ro 3 (.int .i64) v9, .ro 3 (.int .i64) v10, .ro 3 (.int .i64) v11, .int .i64 v12, .int .i64 v13, .int .i64 v14, .bool v15]), (1, .box 25 [.int .i64 v16, .int .i64 v17, .int .i64 v18, .nils, .nils, .int .i64 v19, .nils, .nils, .nils, .int .i64 v20, .int .i64 v21, .int .i64 v22, .bool false]), (2, .row 3 (.int .i64) v23 false)], nx := 3, n := 60, pin := [] }
noncomputable def m0 (N : Nat) (a0 : Node) (lp3 : (List Int) × Int × Int × Int × Int × (List Entry) × (List Int) × Int × (List Int) × (List Int) × (List Int) × Int × Int × Int × Bool × Int × Int × Int × Int × Int × Int × Int → Option R) : Option R :=
  ob (spec_l10Members.m N a0) fun y1 =>
  lp3 (y1, (a0.Log.length : Int), a0.Id, a0.Term, a0.Vote, a0.Log, a0.Start, a0.Role, a0.Votes, a0.Next, a0.Match, a0.Commit, a0.Elapsed, a0.Wait, a0.Up, (0:Int), (0:Int), (0:Int), (0:Int), (0:Int), (0:Int), (0:Int))
theorem run (N : Nat) (o0 : Orc E R) (a0 : Node) : runF T (G N) live [] Try.f131 code (sp N) o0 (a0, ()) = m0 N a0 (fun a => o0 loop3 (K3 N o0) (St3 a0 a)) := by kernel_rfl
theorem body3_0 (N : Nat) (o0 : Orc E R) (o1 : Orc E R) (q1 : St E → Option R) (a0 : Node) (v0 : List Int) (v1 : Int) (v2 : Int) (v3 : Int) (v4 : Int) (v5 : List Entry) (v6 : List Int) (v7 : Int) (v8 : List Int) (v9 : List Int) (v10 : List Int) (v11 : Int) (v12 : Int) (v13 : Int) (v14 : Bool) (v15 : Int) (v16 : Int) (v17 : Int) (v18 : Int) (v19 : Int) (v20 : Int) (v21 : Int) : runA T (G N) live [] o1 body3 (St3 a0 (v0, v1, v2, v3, v4, v5, v6, v7, v8, v9, v10, v11, v12, v13, v14, v15, v16, v17, v18, v19, v20, v21)) (kloop [1, 2, 3, 4] q1 (K3 N o0)) = step3 N a0 (fun a => o1 loop7 (K7 N o0 o1 q1) (St7 a0 a)) (fun a => q1 (St3 a0 a)) (v0, v1, v2, v3, v4, v5, v6, v7, v8, v9, v10, v11, v12, v13, v14, v15, v16, v17, v18, v19, v20, v21) := by kernel_rfl
theorem body7_0 (N : Nat) (o0 : Orc E R) (o1 : Orc E R) (o2 : Orc E R) (q1 : St E → Option R) (q2 : St E → Option R) (a0 : Node) (v0 : List Int) (v1 : Int) (v2 : Int) (v3 : Int) (v4 : Int) (v5 : Int) (v6 : List Entry) (v7 : List Int) (v8 : Int) (v9 : List Int) (v10 : List Int) (v11 : List Int) (v12 : Int) (v13 : Int) (v14 : Int) (v15 : Bool) (v16 : Int) (v17 : Int) (v18 : Int) (v19 : Int) (v20 : Int) (v21 : Int) (v22 : Int) (v23 : List Int) : runA T (G N) live [] o2 body7 (St7 a0 (v0, v1, v2, v3, v4, v5, v6, v7, v8, v9, v10, v11, v12, v13, v14, v15, v16, v17, v18, v19, v20, v21, v22, v23)) (kloop [1, 2, 3, 4, 5, 6] q2 (K7 N o0 o1 q1)) = step7 N a0 (fun a => q1 (St3 a0 a)) (fun a => q2 (St7 a0 a)) (v0, v1, v2, v3, v4, v5, v6, v7, v8, v9, v10, v11, v12, v13, v14, v15, v16, v17, v18, v19, v20, v21, v22, v23) := by kernel_rfl
theorem lp7_eq (N : Nat) (a0 : Node) (q1 : St E → Option R) (a : (List Int) × Int × Int × Int × Int × Int × (List Entry) × (List Int) × Int × (List Int) × (List Int) × (List Int) × Int × Int × Int × Bool × Int × Int × Int × Int × Int × Int × Int × (List Int)) : (orc T (G N) live [] N 2) loop7 (K7 N (orc T (G N) live [] N 3) (orc T (G N) live [] N 2) q1) (St7 a0 a) = lp7 N a0 (fun a => q1 (St3 a0 a)) a :=
  (orc_loop (b := body7) (live := [1, 2, 3, 4, 5, 6]) (by kernel_rfl)).trans (iter_eq (St7 a0) _ _ (fun q2 a => by
    have hc := congrFun (congrFun (congrArg (step7 N a0) (Eq.refl (fun a => q1 (St3 a0 a)))) (fun a => q2 (St7 a0 a))) a
    obtain ⟨u0, u1, u2, u3, u4, u5, u6, u7, u8, u9, u10, u11, u12, u13, u14, u15, u16, u17, u18, u19, u20, u21, u22, u23⟩ := a
    exact (body7_0 N (orc T (G N) live [] N 3) (orc T (G N) live [] N 2) (orc T (G N) live [] N 1) q1 q2 a0 u0 u1 u2 u3 u4 u5 u6 u7 u8 u9 u10 u11 u12 u13 u14 u15 u16 u17 u18 u19 u20 u21 u22 u23).trans hc) N a)
theorem lp3_eq (N : Nat) (a0 : Node) (a : (List Int) × Int × Int × Int × Int × (List Entry) × (List Int) × Int × (List Int) × (List Int) × (List Int) × Int × Int × Int × Bool × Int × Int × Int × Int × Int × Int × Int) : (orc T (G N) live [] N 3) loop3 (K3 N (orc T (G N) live [] N 3)) (St3 a0 a) = lp3 N a0 a :=
  (orc_loop (b := body3) (live := [1, 2, 3, 4]) (by kernel_rfl)).trans (iter_eq (St3 a0) _ _ (fun q1 a => by
    have hc := congrFun (congrFun (congrArg (step3 N a0) (funext fun a => lp7_eq N a0 q1 a)) (fun a => q1 (St3 a0 a))) a
    obtain ⟨u0, u1, u2, u3, u4, u5, u6, u7, u8, u9, u10, u11, u12, u13, u14, u15, u16, u17, u18, u19, u20, u21⟩ := a
    exact (body3_0 N (orc T (G N) live [] N 3) (orc T (G N) live [] N 2) q1 a0 u0 u1 u2 u3 u4 u5 u6 u7 u8 u9 u10 u11 u12 u13 u14 u15 u16 u17 u18 u19 u20 u21).trans hc) N a)
theorem G_ok (N : Nat) : GamOK Try.prog (G N) := gam_ok (l := [(74, [], spec_l10Members.sp N), (159, [], spec_l10Most.sp N)]) (⟨spec_l10Members.snd N, spec_l10Most.snd N, trivial⟩)
theorem snd (N : Nat) : Sound Try.prog E 131 (sp N) :=
  Mir.sound T_OK (G_ok N) mixed Try.func131 (c := code) (by kernel_rfl) (by kernel_rfl) (sp N) (Nat.le_of_ble_eq_true (by kernel_rfl)) live [] (by
    rintro ⟨a0, _⟩ r h
    exact ⟨N, 3, ((run N _ a0).trans (congrArg (m0 N a0) (funext fun a => lp3_eq N a0 a))).trans h⟩)
end spec_l10Advance
namespace spec_l10Term
noncomputable def code : Code := Try.f126.body.getD .skip
abbrev live : Live := []
noncomputable def G (N : Nat) : Ctx E := gam []
noncomputable def m0 (N : Nat) (a0 : Node) (a1 : Int) : Option R :=
  bif (a1 == (0:Int)) then
    some (0:Int)
  else
  bif (decide (0 ≤ (w64 (a1 - (1:Int))))) then
  bif (decide ((w64 (a1 - (1:Int))) < (a0.Log.length : Int))) then
  some ((a0.Log.getD (Int.toNat (w64 (a1 - (1:Int)))) Entry.dz).Term)
  else none
  else none
theorem run (N : Nat) (o0 : Orc E R) (a0 : Node) (a1 : Int) : runF T (G N) live [] Try.f126 code (sp N) o0 (a0, a1, ()) = m0 N a0 a1 := by kernel_rfl
theorem G_ok (N : Nat) : GamOK Try.prog (G N) := gam_ok (l := []) (trivial)
theorem snd (N : Nat) : Sound Try.prog E 126 (sp N) :=
  Mir.sound T_OK (G_ok N) mixed Try.func126 (c := code) (by kernel_rfl) (by kernel_rfl) (sp N) (Nat.le_of_ble_eq_true (by kernel_rfl)) live [] (by
    rintro ⟨a0, a1, _⟩ r h
    exact ⟨N, 2, ((run N _ a0 a1).trans rfl).trans h⟩)
end spec_l10Term
namespace spec_l10Append
noncomputable def code : Code := Try.f160.body.getD .skip
abbrev live : Live := []
noncomputable def G (N : Nat) : Ctx E := gam [(126, [], spec_l10Term.sp N)]
noncomputable def m0 (N : Nat) (a0 : Node) (a1 : Int) : Option R :=
  bif (decide (0 ≤ a1)) then
  bif (decide (a1 < (a0.Next.length : Int))) then
  ob (spec_l10Term.m N a0 (w64 ((a0.Next.getD (Int.toNat a1) (0:Int)) - (1:Int)))) fun y1 =>
  bif (decide (0 ≤ (w64 ((a0.Next.getD (Int.toNat a1) (0:Int)) - (1:Int))))) then
  bif (decide ((w64 ((a0.Next.getD (Int.toNat a1) (0:Int)) - (1:Int))) ≤ ((a0.Log.length : Nat) : Int))) then
  bif (room (([] : List Entry).length + (a0.Log.drop (Int.toNat (w64 ((a0.Next.getD (Int.toNat a1) (0:Int)) - (1:Int))))).length) 32) then
  some (Message.mk (3:Int) a0.Id a1 a0.Term (w64 ((a0.Next.getD (Int.toNat a1) (0:Int)) - (1:Int))) y1 a0.Commit (([] : List Entry) ++ (a0.Log.drop (Int.toNat (w64 ((a0.Next.getD (Int.toNat a1) (0:Int)) - (1:Int)))))) false)
  else none
  else none
  else none
  else none
  else none
theorem run (N : Nat) (o0 : Orc E R) (a0 : Node) (a1 : Int) : runF T (G N) live [] Try.f160 code (sp N) o0 (a0, a1, ()) = m0 N a0 a1 := by kernel_rfl
theorem G_ok (N : Nat) : GamOK Try.prog (G N) := gam_ok (l := [(126, [], spec_l10Term.sp N)]) (⟨spec_l10Term.snd N, trivial⟩)
theorem snd (N : Nat) : Sound Try.prog E 160 (sp N) :=
  Mir.sound T_OK (G_ok N) mixed Try.func160 (c := code) (by kernel_rfl) (by kernel_rfl) (sp N) (Nat.le_of_ble_eq_true (by kernel_rfl)) live [] (by
    rintro ⟨a0, a1, _⟩ r h
    exact ⟨N, 2, ((run N _ a0 a1).trans rfl).trans h⟩)
end spec_l10Append
namespace spec_l10Tell
noncomputable def code : Code := Try.f132.body.getD .skip
abbrev live : Live := [(4, [1, 3, 4, 5])]
noncomputable def G (N : Nat) : Ctx E := gam [(74, [], spec_l10Members.sp N), (160, [], spec_l10Append.sp N)]
noncomputable def loop4 : Code := codeAt code [1, 1, 1, 0, 1, 0]
noncomputable def body4 : Code := codeAt loop4 [0]
noncomputable def K4 (N : Nat) (o0 : Orc E R) : KT E R := kAt TD (G N) live [] o0 code [1, 1, 1, 0, 1, 0] (kfin TD Try.f132 (sp N))
noncomputable def St4 (a0 : Node) : ((List Int) × Int × (List Message)) → St E
  | (v0, v1, v15) => { ρ := [(1, .c (.at (.ptr 0 0))), (3, .c (.at (.own 1))), (4, .c (.at (.ro 3 (.int .i64) v0))), (5, .c (.at (.int .i64 v1)))], H := [(0, .box 25 [.int .i64 a0.Id, .int .i64 a0.Term, .int .i64 a0.Vote, .ro 96 (.st 96) a0.Log, .ro 3 (.int .i64) a0.Start, .int .i64 a0.Role, .ro 3 (.int .i64) a0.Votes, .ro 3 (.int .i64) a0.Next, .ro 3 (.int .i64) a0.Match, .int .i64 a0.Commit, .int .i64 a0.Elapsed, .int .i64 a0.Wait, .bool a0.Up]), (1, .drow 102 (.st 102) v15 2), (2, .hdr)], nx := 3, n := 32, pin := [] }
noncomputable def m0 (N : Nat) (a0 : Node) (lp4 : (List Int) × Int × (List Message) → Option R) : Option R :=
  ob (spec_l10Members.m N a0) fun y1 =>
  lp4 (y1, (0:Int), ([] : List Message))
theorem run (N : Nat) (o0 : Orc E R) (a0 : Node) : runF TD (G N) live [] Try.f132 code (sp N) o0 (a0, ()) = m0 N a0 (fun a => o0 loop4 (K4 N o0) (St4 a0 a)) := by kernel_rfl
theorem body4_0 (N : Nat) (o0 : Orc E R) (o1 : Orc E R) (q1 : St E → Option R) (a0 : Node) (v0 : List Int) (v1 : Int) (v15 : List Message) : runA TD (G N) live [] o1 body4 (St4 a0 (v0, v1, v15)) (kloop [1, 3, 4, 5] q1 (K4 N o0)) = step4 N a0 (fun a => q1 (St4 a0 a)) (v0, v1, v15) := by kernel_rfl
theorem lp4_eq (N : Nat) (a0 : Node) (a : (List Int) × Int × (List Message)) : (orc TD (G N) live [] N 2) loop4 (K4 N (orc TD (G N) live [] N 2)) (St4 a0 a) = lp4 N a0 a :=
  (orc_loop (b := body4) (live := [1, 3, 4, 5]) (by kernel_rfl)).trans (iter_eq (St4 a0) _ _ (fun q1 a => by
    have hc := congrFun (congrFun (rfl : (step4 N a0) = (step4 N a0)) (fun a => q1 (St4 a0 a))) a
    obtain ⟨u0, u1, u2⟩ := a
    exact (body4_0 N (orc TD (G N) live [] N 2) (orc TD (G N) live [] N 1) q1 a0 u0 u1 u2).trans hc) N a)
theorem G_ok (N : Nat) : GamOK Try.prog (G N) := gam_ok (l := [(74, [], spec_l10Members.sp N), (160, [], spec_l10Append.sp N)]) (⟨spec_l10Members.snd N, spec_l10Append.snd N, trivial⟩)
theorem snd (N : Nat) : Sound Try.prog E 132 (sp N) :=
  Mir.sound TD_OK (G_ok N) mixed Try.func132 (c := code) (by kernel_rfl) (by kernel_rfl) (sp N) (Nat.le_of_ble_eq_true (by kernel_rfl)) live [] (by
    rintro ⟨a0, _⟩ r h
    exact ⟨N, 2, ((run N _ a0).trans (congrArg (m0 N a0) (funext fun a => lp4_eq N a0 a))).trans h⟩)
end spec_l10Tell
namespace spec_l10Propose
noncomputable def code : Code := Try.f78.body.getD .skip
abbrev live : Live := []
noncomputable def G (N : Nat) : Ctx E := gam [(79, [], spec_l10Own.sp N), (131, [], spec_l10Advance.sp N), (132, [], spec_l10Tell.sp N)]
noncomputable def m0 (N : Nat) (a0 : Node) (a1 : Entry) : Option R :=
  bif (!a0.Up) then
    some (a0, ([] : List Message), (5:Int))
  else
  bif (a0.Role != (2:Int)) then
    some (a0, ([] : List Message), (14:Int))
  else
  bif ((a0.Log.length : Int) == (60:Int)) then
    some (a0, ([] : List Message), (7:Int))
  else
  ob (spec_l10Own.m N a0) fun y1 =>
  bif (room (y1.Log.length + ([(Entry.mk y1.Term a1.Kind a1.Data)]).length) 32) then
  ob (spec_l10Advance.m N (Node.mk y1.Id y1.Term y1.Vote (y1.Log ++ [(Entry.mk y1.Term a1.Kind a1.Data)]) y1.Start y1.Role y1.Votes y1.Next y1.Match y1.Commit y1.Elapsed y1.Wait y1.Up)) fun y2 =>
  ob (spec_l10Tell.m N (Node.mk y2.Id y2.Term y2.Vote y2.Log y2.Start y2.Role y2.Votes y2.Next y2.Match y2.Commit y2.Elapsed y2.Wait y2.Up)) fun y3 =>
  some ((Node.mk y2.Id y2.Term y2.Vote y2.Log y2.Start y2.Role y2.Votes y2.Next y2.Match y2.Commit y2.Elapsed y2.Wait y2.Up), y3, (0:Int))
  else none
theorem run (N : Nat) (o0 : Orc E R) (a0 : Node) (a1 : Entry) : runF T (G N) live [] Try.f78 code (sp N) o0 (a0, a1, ()) = m0 N a0 a1 := by kernel_rfl
theorem G_ok (N : Nat) : GamOK Try.prog (G N) := gam_ok (l := [(79, [], spec_l10Own.sp N), (131, [], spec_l10Advance.sp N), (132, [], spec_l10Tell.sp N)]) (⟨spec_l10Own.snd N, spec_l10Advance.snd N, spec_l10Tell.snd N, trivial⟩)
theorem snd (N : Nat) : Sound Try.prog E 78 (sp N) :=
  Mir.sound T_OK (G_ok N) mixed Try.func78 (c := code) (by kernel_rfl) (by kernel_rfl) (sp N) (Nat.le_of_ble_eq_true (by kernel_rfl)) live [] (by
    rintro ⟨a0, a1, _⟩ r h
    exact ⟨N, 2, ((run N _ a0 a1).trans rfl).trans h⟩)
end spec_l10Propose
namespace spec_NodePropose
noncomputable def code : Code := Try.f33.body.getD .skip
abbrev live : Live := []
noncomputable def G (N : Nat) : Ctx E := gam [(23, [], spec_NodeOK.sp N), (53, [], spec_l01In.sp N), (78, [], spec_l10Propose.sp N), (79, [], spec_l10Own.sp N)]
noncomputable def m0 (N : Nat) (a0 : Node) (a1 : ByteArray) : Option R :=
  bif (decide ((a1.size : Int) > (65536:Int))) then
    some ((Node.mk (0:Int) (0:Int) (0:Int) ([] : List Entry) ([] : List Int) (0:Int) ([] : List Int) ([] : List Int) ([] : List Int) (0:Int) (0:Int) (0:Int) false), ([] : List Message), (2:Int))
  else
  ob (spec_NodeOK.m N a0) fun y1 =>
  bif (!y1) then
    some ((Node.mk (0:Int) (0:Int) (0:Int) ([] : List Entry) ([] : List Int) (0:Int) ([] : List Int) ([] : List Int) ([] : List Int) (0:Int) (0:Int) (0:Int) false), ([] : List Message), (1:Int))
  else
  ob (spec_l01In.m N (a1.size : Int) (1:Int) (100:Int)) fun y2 =>
  bif (bif false then true else (!y2)) then
    some ((Node.mk (0:Int) (0:Int) (0:Int) ([] : List Entry) ([] : List Int) (0:Int) ([] : List Int) ([] : List Int) ([] : List Int) (0:Int) (0:Int) (0:Int) false), ([] : List Message), (1:Int))
  else
  ob (spec_l10Propose.m N a0 (Entry.mk (0:Int) (1:Int) a1)) fun y3 =>
  ob (spec_l10Own.m N y3.1) fun y4 =>
  some (y4, y3.2.1, y3.2.2)
theorem run (N : Nat) (o0 : Orc E R) (a0 : Node) (a1 : ByteArray) : runF T (G N) live [] Try.f33 code (sp N) o0 (a0, a1, ()) = m0 N a0 a1 := by kernel_rfl
theorem G_ok (N : Nat) : GamOK Try.prog (G N) := gam_ok (l := [(23, [], spec_NodeOK.sp N), (53, [], spec_l01In.sp N), (78, [], spec_l10Propose.sp N), (79, [], spec_l10Own.sp N)]) (⟨spec_NodeOK.snd N, spec_l01In.snd N, spec_l10Propose.snd N, spec_l10Own.snd N, trivial⟩)
theorem snd (N : Nat) : Sound Try.prog E 33 (sp N) :=
  Mir.sound T_OK (G_ok N) mixed Try.func33 (c := code) (by kernel_rfl) (by kernel_rfl) (sp N) (Nat.le_of_ble_eq_true (by kernel_rfl)) live [] (by
    rintro ⟨a0, a1, _⟩ r h
    exact ⟨N, 2, ((run N _ a0 a1).trans rfl).trans h⟩)
end spec_NodePropose
namespace impl_isText_1
noncomputable def code : Code := Try.f134.body.getD .skip
abbrev live : Live := []
noncomputable def G (N : Nat) : Ctx E := gam []
noncomputable def m0 (N : Nat) (a0 : ByteArray) : Option R :=
  some (decide ((a0.size : Int) > (65536:Int)))
theorem run (N : Nat) (o0 : Orc E R) (a0 : ByteArray) : runF T (G N) live [] Try.f134 code (sp N) o0 (a0, ()) = m0 N a0 := by kernel_rfl
theorem G_ok (N : Nat) : GamOK Try.prog (G N) := gam_ok (l := []) (trivial)
theorem snd (N : Nat) : Sound Try.prog E 134 (sp N) :=
  Mir.sound T_OK (G_ok N) mixed Try.func134 (c := code) (by kernel_rfl) (by kernel_rfl) (sp N) (Nat.le_of_ble_eq_true (by kernel_rfl)) live [] (by
    rintro ⟨a0, _⟩ r h
    exact ⟨N, 2, ((run N _ a0).trans rfl).trans h⟩)
end impl_isText_1
namespace slices_IndexFunc_string_string__impl_isText_1
noncomputable def code : Code := Try.f161.body.getD .skip
abbrev live : Live := [(2, [0, 1, 7, 8])]
noncomputable def G (N : Nat) : Ctx E := gam [(134, [], impl_isText_1.sp N)]
noncomputable def loop2 : Code := codeAt code [1, 0, 1, 0]
noncomputable def body2 : Code := codeAt loop2 [0]
noncomputable def K2 (N : Nat) (o0 : Orc E R) : KT E R := kAt T (G N) live [] o0 code [1, 0, 1, 0] (kfin T Try.f161 (sp N))
noncomputable def St2 (a0 : List ByteArray) : (Int × Int) → St E
  | (v1, v2) => { ρ := [(0, .c (.at (.ro 9 .str a0))), (1, .clo 134 []), (7, .c (.at (.int .i64 v1))), (8, .c (.at (.int .i64 v2)))], H := [], nx := 0, n := 19, pin := [] }
noncomputable def m0 (N : Nat) (a0 : List ByteArray) (lp2 : Int × Int → Option R) : Option R :=
  lp2 ((a0.length : Int), (0:Int))
theorem run (N : Nat) (o0 : Orc E R) (a0 : List ByteArray) : runF T (G N) live [] Try.f161 code (sp N) o0 (a0, (), ()) = m0 N a0 (fun a => o0 loop2 (K2 N o0) (St2 a0 a)) := by kernel_rfl
theorem body2_0 (N : Nat) (o0 : Orc E R) (o1 : Orc E R) (q1 : St E → Option R) (a0 : List ByteArray) (v1 : Int) (v2 : Int) : runA T (G N) live [] o1 body2 (St2 a0 (v1, v2)) (kloop [0, 1, 7, 8] q1 (K2 N o0)) = step2 N a0 (fun a => q1 (St2 a0 a)) (v1, v2) := by kernel_rfl
theorem lp2_eq (N : Nat) (a0 : List ByteArray) (a : Int × Int) : (orc T (G N) live [] N 2) loop2 (K2 N (orc T (G N) live [] N 2)) (St2 a0 a) = lp2 N a0 a :=
  (orc_loop (b := body2) (live := [0, 1, 7, 8]) (by kernel_rfl)).trans (iter_eq (St2 a0) _ _ (fun q1 a => by
    have hc := congrFun (congrFun (rfl : (step2 N a0) = (step2 N a0)) (fun a => q1 (St2 a0 a))) a
    obtain ⟨u0, u1⟩ := a
    exact (body2_0 N (orc T (G N) live [] N 2) (orc T (G N) live [] N 1) q1 a0 u0 u1).trans hc) N a)
theorem G_ok (N : Nat) : GamOK Try.prog (G N) := gam_ok (l := [(134, [], impl_isText_1.sp N)]) (⟨impl_isText_1.snd N, trivial⟩)
theorem snd (N : Nat) : Sound Try.prog E 161 (sp N) :=
  Mir.sound T_OK (G_ok N) mixed Try.func161 (c := code) (by kernel_rfl) (by kernel_rfl) (sp N) (Nat.le_of_ble_eq_true (by kernel_rfl)) live [] (by
    rintro ⟨a0, _, _⟩ r h
    exact ⟨N, 2, ((run N _ a0).trans (congrArg (m0 N a0) (funext fun a => lp2_eq N a0 a))).trans h⟩)
end slices_IndexFunc_string_string__impl_isText_1
namespace slices_ContainsFunc_string_string__impl_isText_1
noncomputable def code : Code := Try.f133.body.getD .skip
abbrev live : Live := []
noncomputable def G (N : Nat) : Ctx E := gam [(161, [134], slices_IndexFunc_string_string__impl_isText_1.sp N)]
noncomputable def m0 (N : Nat) (a0 : List ByteArray) : Option R :=
  ob (slices_IndexFunc_string_string__impl_isText_1.m N a0) fun y1 =>
  some (decide (y1 ≥ (0:Int)))
theorem run (N : Nat) (o0 : Orc E R) (a0 : List ByteArray) : runF T (G N) live [] Try.f133 code (sp N) o0 (a0, (), ()) = m0 N a0 := by kernel_rfl
theorem G_ok (N : Nat) : GamOK Try.prog (G N) := gam_ok (l := [(161, [134], slices_IndexFunc_string_string__impl_isText_1.sp N)]) (⟨slices_IndexFunc_string_string__impl_isText_1.snd N, trivial⟩)
theorem snd (N : Nat) : Sound Try.prog E 133 (sp N) :=
  Mir.sound T_OK (G_ok N) mixed Try.func133 (c := code) (by kernel_rfl) (by kernel_rfl) (sp N) (Nat.le_of_ble_eq_true (by kernel_rfl)) live [] (by
    rintro ⟨a0, _, _⟩ r h
    exact ⟨N, 2, ((run N _ a0).trans rfl).trans h⟩)
end slices_ContainsFunc_string_string__impl_isText_1
namespace impl_isText
noncomputable def code : Code := Try.f80.body.getD .skip
abbrev live : Live := []
noncomputable def G (N : Nat) : Ctx E := gam [(133, [134], slices_ContainsFunc_string_string__impl_isText_1.sp N)]
noncomputable def m0 (N : Nat) (a0 : List ByteArray) : Option R :=
  ob (slices_ContainsFunc_string_string__impl_isText_1.m N a0) fun y1 =>
  some (!y1)
theorem run (N : Nat) (o0 : Orc E R) (a0 : List ByteArray) : runF T (G N) live [] Try.f80 code (sp N) o0 (a0, ()) = m0 N a0 := by kernel_rfl
theorem G_ok (N : Nat) : GamOK Try.prog (G N) := gam_ok (l := [(133, [134], slices_ContainsFunc_string_string__impl_isText_1.sp N)]) (⟨slices_ContainsFunc_string_string__impl_isText_1.snd N, trivial⟩)
theorem snd (N : Nat) : Sound Try.prog E 80 (sp N) :=
  Mir.sound T_OK (G_ok N) mixed Try.func80 (c := code) (by kernel_rfl) (by kernel_rfl) (sp N) (Nat.le_of_ble_eq_true (by kernel_rfl)) live [] (by
    rintro ⟨a0, _⟩ r h
    exact ⟨N, 2, ((run N _ a0).trans rfl).trans h⟩)
end impl_isText
namespace impl_within
noncomputable def code : Code := Try.f70.body.getD .skip
abbrev live : Live := []
noncomputable def G (N : Nat) : Ctx E := gam []
noncomputable def m0 (N : Nat) (a0 : Int) (a1 : Int) (a2 : Int) : Option R :=
  bif (decide (a0 ≥ a1)) then
    some (bif true then (decide (a0 ≤ a2)) else false)
  else
  some false
theorem run (N : Nat) (o0 : Orc E R) (a0 : Int) (a1 : Int) (a2 : Int) : runF T (G N) live [] Try.f70 code (sp N) o0 (a0, a1, a2, ()) = m0 N a0 a1 a2 := by kernel_rfl
theorem G_ok (N : Nat) : GamOK Try.prog (G N) := gam_ok (l := []) (trivial)
theorem snd (N : Nat) : Sound Try.prog E 70 (sp N) :=
  Mir.sound T_OK (G_ok N) mixed Try.func70 (c := code) (by kernel_rfl) (by kernel_rfl) (sp N) (Nat.le_of_ble_eq_true (by kernel_rfl)) live [] (by
    rintro ⟨a0, a1, a2, _⟩ r h
    exact ⟨N, 2, ((run N _ a0 a1 a2).trans rfl).trans h⟩)
end impl_within
namespace impl_isNumber
noncomputable def code : Code := Try.f57.body.getD .skip
abbrev live : Live := []
noncomputable def G (N : Nat) : Ctx E := gam [(70, [], impl_within.sp N)]
noncomputable def m0 (N : Nat) (a0 : Int) : Option R :=
  ob (impl_within.m N a0 (0:Int) (6:Int)) fun y1 =>
  some y1
theorem run (N : Nat) (o0 : Orc E R) (a0 : Int) : runF T (G N) live [] Try.f57 code (sp N) o0 (a0, ()) = m0 N a0 := by kernel_rfl
theorem G_ok (N : Nat) : GamOK Try.prog (G N) := gam_ok (l := [(70, [], impl_within.sp N)]) (⟨impl_within.snd N, trivial⟩)
theorem snd (N : Nat) : Sound Try.prog E 57 (sp N) :=
  Mir.sound T_OK (G_ok N) mixed Try.func57 (c := code) (by kernel_rfl) (by kernel_rfl) (sp N) (Nat.le_of_ble_eq_true (by kernel_rfl)) live [] (by
    rintro ⟨a0, _⟩ r h
    exact ⟨N, 2, ((run N _ a0).trans rfl).trans h⟩)
end impl_isNumber
namespace impl_areNumbers_1
noncomputable def code : Code := Try.f125.body.getD .skip
abbrev live : Live := []
noncomputable def G (N : Nat) : Ctx E := gam [(70, [], impl_within.sp N)]
noncomputable def m0 (N : Nat) (a0 : Int) : Option R :=
  ob (impl_within.m N a0 (0:Int) (6:Int)) fun y1 =>
  some (!y1)
theorem run (N : Nat) (o0 : Orc E R) (a0 : Int) : runF T (G N) live [] Try.f125 code (sp N) o0 (a0, ()) = m0 N a0 := by kernel_rfl
theorem G_ok (N : Nat) : GamOK Try.prog (G N) := gam_ok (l := [(70, [], impl_within.sp N)]) (⟨impl_within.snd N, trivial⟩)
theorem snd (N : Nat) : Sound Try.prog E 125 (sp N) :=
  Mir.sound T_OK (G_ok N) mixed Try.func125 (c := code) (by kernel_rfl) (by kernel_rfl) (sp N) (Nat.le_of_ble_eq_true (by kernel_rfl)) live [] (by
    rintro ⟨a0, _⟩ r h
    exact ⟨N, 2, ((run N _ a0).trans rfl).trans h⟩)
end impl_areNumbers_1
end Mir.Y
