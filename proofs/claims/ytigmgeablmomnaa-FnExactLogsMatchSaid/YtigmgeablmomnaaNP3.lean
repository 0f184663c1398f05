/- The models are what the functions do. -/
import Derived.Test.YtigmgeablmomnaaNP2
namespace Mir.Y
set_option linter.unusedVariables false
set_option maxRecDepth 10000
open Go Go.Proofs Mir
namespace laws_szDoneS
noncomputable def code : Code := Try.f100.body.getD .skip
abbrev live : Live := [(5, [0, 1, 5])]
noncomputable def G (N : Nat) : Ctx E := gam [(145, [], laws_szDone.sp N)]
noncomputable def loop5 : Code := codeAt code [1, 1, 1, 0, 1, 0]
noncomputable def body5 : Code := codeAt loop5 [0]
noncomputable def K5 (N : Nat) (o0 : Orc E R) : KT E R := kAt T (G N) live [] o0 code [1, 1, 1, 0, 1, 0] (kfin T Try.f100 (sp N))
noncomputable def St5 (a0 : List Done) (a1 : Int) : (Int × Int) → St E
  | (v1, v2) => { ρ := [(0, .c (.at (.ro 164 (.st 164) a0))), (1, .c (.at (.int .i64 v1))), (5, .c (.at (.int .i64 v2)))], H := [], nx := 0, n := 27, pin := [] }
noncomputable def m0 (N : Nat) (a0 : List Done) (a1 : Int) (lp5 : Int × Int → Option R) : Option R :=
  bif (decide ((w64 (a1 - (a0.length : Int))) < (0:Int))) then
    some (-1:Int)
  else
  lp5 ((w64 (a1 - (a0.length : Int))), (0:Int))
theorem run (N : Nat) (o0 : Orc E R) (a0 : List Done) (a1 : Int) : runF T (G N) live [] Try.f100 code (sp N) o0 (a0, a1, ()) = m0 N a0 a1 (fun a => o0 loop5 (K5 N o0) (St5 a0 a1 a)) := by kernel_rfl
theorem body5_0 (N : Nat) (o0 : Orc E R) (o1 : Orc E R) (q1 : St E → Option R) (a0 : List Done) (a1 : Int) (v1 : Int) (v2 : Int) : runA T (G N) live [] o1 body5 (St5 a0 a1 (v1, v2)) (kloop [0, 1, 5] q1 (K5 N o0)) = step5 N a0 a1 (fun a => q1 (St5 a0 a1 a)) (v1, v2) := by kernel_rfl
theorem lp5_eq (N : Nat) (a0 : List Done) (a1 : Int) (a : Int × Int) : (orc T (G N) live [] N 2) loop5 (K5 N (orc T (G N) live [] N 2)) (St5 a0 a1 a) = lp5 N a0 a1 a :=
  (orc_loop (b := body5) (live := [0, 1, 5]) (by kernel_rfl)).trans (iter_eq (St5 a0 a1) _ _ (fun q1 a => by
    have hc := congrFun (congrFun (rfl : (step5 N a0 a1) = (step5 N a0 a1)) (fun a => q1 (St5 a0 a1 a))) a
    obtain ⟨u0, u1⟩ := a
    exact (body5_0 N (orc T (G N) live [] N 2) (orc T (G N) live [] N 1) q1 a0 a1 u0 u1).trans hc) N a)
theorem G_ok (N : Nat) : GamOK Try.prog (G N) := gam_ok (l := [(145, [], laws_szDone.sp N)]) (⟨laws_szDone.snd N, trivial⟩)
theorem snd (N : Nat) : Sound Try.prog E 100 (sp N) :=
  Mir.sound T_OK (G_ok N) mixed Try.func100 (c := code) (by kernel_rfl) (by kernel_rfl) (sp N) (Nat.le_of_ble_eq_true (by kernel_rfl)) live [] (by
    rintro ⟨a0, a1, _⟩ r h
    exact ⟨N, 2, ((run N _ a0 a1).trans (congrArg (m0 N a0 a1) (funext fun a => lp5_eq N a0 a1 a))).trans h⟩)
end laws_szDoneS
namespace laws_szGroup
noncomputable def code : Code := Try.f45.body.getD .skip
abbrev live : Live := []
noncomputable def G (N : Nat) : Ctx E := gam [(97, [], laws_szNodeS.sp N), (98, [], laws_szMessageS.sp N), (99, [], laws_szLeadS.sp N), (100, [], laws_szDoneS.sp N)]
noncomputable def m0 (N : Nat) (a0 : Group) (a1 : Int) : Option R :=
  ob (laws_szNodeS.m N a0.Nodes a1) fun y1 =>
  bif (decide (y1 < (0:Int))) then
    some (-1:Int)
  else
  ob (laws_szMessageS.m N a0.Wire y1) fun y2 =>
  bif (decide (y2 < (0:Int))) then
    some (-1:Int)
  else
  ob (laws_szLeadS.m N a0.Leads y2) fun y3 =>
  bif (decide (y3 < (0:Int))) then
    some (-1:Int)
  else
  ob (laws_szDoneS.m N a0.Dones y3) fun y4 =>
  bif (decide (y4 < (0:Int))) then
    some (-1:Int)
  else
  some y4
theorem run (N : Nat) (o0 : Orc E R) (a0 : Group) (a1 : Int) : runF T (G N) live [] Try.f45 code (sp N) o0 (a0, a1, ()) = m0 N a0 a1 := by kernel_rfl
theorem G_ok (N : Nat) : GamOK Try.prog (G N) := gam_ok (l := [(97, [], laws_szNodeS.sp N), (98, [], laws_szMessageS.sp N), (99, [], laws_szLeadS.sp N), (100, [], laws_szDoneS.sp N)]) (⟨laws_szNodeS.snd N, laws_szMessageS.snd N, laws_szLeadS.snd N, laws_szDoneS.snd N, trivial⟩)
theorem snd (N : Nat) : Sound Try.prog E 45 (sp N) :=
  Mir.sound T_OK (G_ok N) mixed Try.func45 (c := code) (by kernel_rfl) (by kernel_rfl) (sp N) (Nat.le_of_ble_eq_true (by kernel_rfl)) live [] (by
    rintro ⟨a0, a1, _⟩ r h
    exact ⟨N, 2, ((run N _ a0 a1).trans rfl).trans h⟩)
end laws_szGroup
namespace laws_toNodeS
noncomputable def code : Code := Try.f102.body.getD .skip
abbrev live : Live := [(3, [0, 3, 4])]
noncomputable def G (N : Nat) : Ctx E := gam [(24, [], laws_toNode.sp N)]
noncomputable def loop3 : Code := codeAt code [1, 1, 0, 1, 0]
noncomputable def body3 : Code := codeAt loop3 [0]
noncomputable def K3 (N : Nat) (o0 : Orc E R) : KT E R := kAt T (G N) live [] o0 code [1, 1, 0, 1, 0] (kfin T Try.f102 (sp N))
noncomputable def St3 (a0 : List Node) : (Int × (List Node)) → St E
  | (v1, v2) => { ρ := [(0, .c (.at (.ro 36 (.st 36) a0))), (3, .c (.at (.own 0))), (4, .c (.at (.int .i64 v1)))], H := [(0, .row 25 (.st 25) v2 false)], nx := 1, n := 23, pin := [] }
noncomputable def m0 (N : Nat) (a0 : List Node) (lp3 : Int × (List Node) → Option R) : Option R :=
  bif (decide (0 ≤ (a0.length : Int))) then
  bif (room (Int.toNat (a0.length : Int)) 184) then
  (let w1 : List Node := (List.replicate (Int.toNat (a0.length : Int)) (Node.mk (0:Int) (0:Int) (0:Int) ([] : List Entry) ([] : List Int) (0:Int) ([] : List Int) ([] : List Int) ([] : List Int) (0:Int) (0:Int) (0:Int) false))
  lp3 ((0:Int), w1))
  else none
  else none
theorem run (N : Nat) (o0 : Orc E R) (a0 : List Node) : runF T (G N) live [] Try.f102 code (sp N) o0 (a0, ()) = m0 N a0 (fun a => o0 loop3 (K3 N o0) (St3 a0 a)) := by kernel_rfl
theorem body3_0 (N : Nat) (o0 : Orc E R) (o1 : Orc E R) (q1 : St E → Option R) (a0 : List Node) (v1 : Int) (v2 : List Node) : runA T (G N) live [] o1 body3 (St3 a0 (v1, v2)) (kloop [0, 3, 4] q1 (K3 N o0)) = step3 N a0 (fun a => q1 (St3 a0 a)) (v1, v2) := by kernel_rfl
theorem lp3_eq (N : Nat) (a0 : List Node) (a : Int × (List Node)) : (orc T (G N) live [] N 2) loop3 (K3 N (orc T (G N) live [] N 2)) (St3 a0 a) = lp3 N a0 a :=
  (orc_loop (b := body3) (live := [0, 3, 4]) (by kernel_rfl)).trans (iter_eq (St3 a0) _ _ (fun q1 a => by
    have hc := congrFun (congrFun (rfl : (step3 N a0) = (step3 N a0)) (fun a => q1 (St3 a0 a))) a
    obtain ⟨u0, u1⟩ := a
    exact (body3_0 N (orc T (G N) live [] N 2) (orc T (G N) live [] N 1) q1 a0 u0 u1).trans hc) N a)
theorem G_ok (N : Nat) : GamOK Try.prog (G N) := gam_ok (l := [(24, [], laws_toNode.sp N)]) (⟨laws_toNode.snd N, trivial⟩)
theorem snd (N : Nat) : Sound Try.prog E 102 (sp N) :=
  Mir.sound T_OK (G_ok N) mixed Try.func102 (c := code) (by kernel_rfl) (by kernel_rfl) (sp N) (Nat.le_of_ble_eq_true (by kernel_rfl)) live [] (by
    rintro ⟨a0, _⟩ r h
    exact ⟨N, 2, ((run N _ a0).trans (congrArg (m0 N a0) (funext fun a => lp3_eq N a0 a))).trans h⟩)
end laws_toNodeS
namespace laws_toMessage
noncomputable def code : Code := Try.f146.body.getD .skip
abbrev live : Live := []
noncomputable def G (N : Nat) : Ctx E := gam [(66, [], laws_toEntryS.sp N)]
noncomputable def m0 (N : Nat) (a0 : Message) : Option R :=
  ob (laws_toEntryS.m N a0.Entries) fun y1 =>
  some (Message.mk a0.Kind a0.From a0.To a0.Term a0.Index a0.LogTerm a0.Commit y1 a0.Ok)
theorem run (N : Nat) (o0 : Orc E R) (a0 : Message) : runF T (G N) live [] Try.f146 code (sp N) o0 (a0, ()) = m0 N a0 := by kernel_rfl
theorem G_ok (N : Nat) : GamOK Try.prog (G N) := gam_ok (l := [(66, [], laws_toEntryS.sp N)]) (⟨laws_toEntryS.snd N, trivial⟩)
theorem snd (N : Nat) : Sound Try.prog E 146 (sp N) :=
  Mir.sound T_OK (G_ok N) mixed Try.func146 (c := code) (by kernel_rfl) (by kernel_rfl) (sp N) (Nat.le_of_ble_eq_true (by kernel_rfl)) live [] (by
    rintro ⟨a0, _⟩ r h
    exact ⟨N, 2, ((run N _ a0).trans rfl).trans h⟩)
end laws_toMessage
namespace laws_toMessageS
noncomputable def code : Code := Try.f103.body.getD .skip
abbrev live : Live := [(3, [0, 3, 4])]
noncomputable def G (N : Nat) : Ctx E := gam [(146, [], laws_toMessage.sp N)]
noncomputable def loop3 : Code := codeAt code [1, 1, 0, 1, 0]
noncomputable def body3 : Code := codeAt loop3 [0]
noncomputable def K3 (N : Nat) (o0 : Orc E R) : KT E R := kAt T (G N) live [] o0 code [1, 1, 0, 1, 0] (kfin T Try.f103 (sp N))
noncomputable def St3 (a0 : List Message) : (Int × (List Message)) → St E
  | (v1, v2) => { ρ := [(0, .c (.at (.ro 158 (.st 158) a0))), (3, .c (.at (.own 0))), (4, .c (.at (.int .i64 v1)))], H := [(0, .row 102 (.st 102) v2 false)], nx := 1, n := 23, pin := [] }
noncomputable def m0 (N : Nat) (a0 : List Message) (lp3 : Int × (List Message) → Option R) : Option R :=
  bif (decide (0 ≤ (a0.length : Int))) then
  bif (room (Int.toNat (a0.length : Int)) 88) then
  lp3 ((0:Int), (List.replicate (Int.toNat (a0.length : Int)) (Message.mk (0:Int) (0:Int) (0:Int) (0:Int) (0:Int) (0:Int) (0:Int) ([] : List Entry) false)))
  else none
  else none
theorem run (N : Nat) (o0 : Orc E R) (a0 : List Message) : runF T (G N) live [] Try.f103 code (sp N) o0 (a0, ()) = m0 N a0 (fun a => o0 loop3 (K3 N o0) (St3 a0 a)) := by kernel_rfl
theorem body3_0 (N : Nat) (o0 : Orc E R) (o1 : Orc E R) (q1 : St E → Option R) (a0 : List Message) (v1 : Int) (v2 : List Message) : runA T (G N) live [] o1 body3 (St3 a0 (v1, v2)) (kloop [0, 3, 4] q1 (K3 N o0)) = step3 N a0 (fun a => q1 (St3 a0 a)) (v1, v2) := by kernel_rfl
theorem lp3_eq (N : Nat) (a0 : List Message) (a : Int × (List Message)) : (orc T (G N) live [] N 2) loop3 (K3 N (orc T (G N) live [] N 2)) (St3 a0 a) = lp3 N a0 a :=
  (orc_loop (b := body3) (live := [0, 3, 4]) (by kernel_rfl)).trans (iter_eq (St3 a0) _ _ (fun q1 a => by
    have hc := congrFun (congrFun (rfl : (step3 N a0) = (step3 N a0)) (fun a => q1 (St3 a0 a))) a
    obtain ⟨u0, u1⟩ := a
    exact (body3_0 N (orc T (G N) live [] N 2) (orc T (G N) live [] N 1) q1 a0 u0 u1).trans hc) N a)
theorem G_ok (N : Nat) : GamOK Try.prog (G N) := gam_ok (l := [(146, [], laws_toMessage.sp N)]) (⟨laws_toMessage.snd N, trivial⟩)
theorem snd (N : Nat) : Sound Try.prog E 103 (sp N) :=
  Mir.sound T_OK (G_ok N) mixed Try.func103 (c := code) (by kernel_rfl) (by kernel_rfl) (sp N) (Nat.le_of_ble_eq_true (by kernel_rfl)) live [] (by
    rintro ⟨a0, _⟩ r h
    exact ⟨N, 2, ((run N _ a0).trans (congrArg (m0 N a0) (funext fun a => lp3_eq N a0 a))).trans h⟩)
end laws_toMessageS
namespace laws_toLead
noncomputable def code : Code := Try.f147.body.getD .skip
abbrev live : Live := []
noncomputable def G (N : Nat) : Ctx E := gam [(66, [], laws_toEntryS.sp N)]
noncomputable def m0 (N : Nat) (a0 : Lead) : Option R :=
  ob (laws_toEntryS.m N a0.Log) fun y1 =>
  some (Lead.mk a0.Term a0.Id y1)
theorem run (N : Nat) (o0 : Orc E R) (a0 : Lead) : runF T (G N) live [] Try.f147 code (sp N) o0 (a0, ()) = m0 N a0 := by kernel_rfl
theorem G_ok (N : Nat) : GamOK Try.prog (G N) := gam_ok (l := [(66, [], laws_toEntryS.sp N)]) (⟨laws_toEntryS.snd N, trivial⟩)
theorem snd (N : Nat) : Sound Try.prog E 147 (sp N) :=
  Mir.sound T_OK (G_ok N) mixed Try.func147 (c := code) (by kernel_rfl) (by kernel_rfl) (sp N) (Nat.le_of_ble_eq_true (by kernel_rfl)) live [] (by
    rintro ⟨a0, _⟩ r h
    exact ⟨N, 2, ((run N _ a0).trans rfl).trans h⟩)
end laws_toLead
namespace laws_toLeadS
noncomputable def code : Code := Try.f104.body.getD .skip
abbrev live : Live := [(3, [0, 3, 4])]
noncomputable def G (N : Nat) : Ctx E := gam [(147, [], laws_toLead.sp N)]
noncomputable def loop3 : Code := codeAt code [1, 1, 0, 1, 0]
noncomputable def body3 : Code := codeAt loop3 [0]
noncomputable def K3 (N : Nat) (o0 : Orc E R) : KT E R := kAt T (G N) live [] o0 code [1, 1, 0, 1, 0] (kfin T Try.f104 (sp N))
noncomputable def St3 (a0 : List Lead) : (Int × (List Lead)) → St E
  | (v1, v2) => { ρ := [(0, .c (.at (.ro 161 (.st 161) a0))), (3, .c (.at (.own 0))), (4, .c (.at (.int .i64 v1)))], H := [(0, .row 128 (.st 128) v2 false)], nx := 1, n := 23, pin := [] }
noncomputable def m0 (N : Nat) (a0 : List Lead) (lp3 : Int × (List Lead) → Option R) : Option R :=
  bif (decide (0 ≤ (a0.length : Int))) then
  bif (room (Int.toNat (a0.length : Int)) 40) then
  lp3 ((0:Int), (List.replicate (Int.toNat (a0.length : Int)) (Lead.mk (0:Int) (0:Int) ([] : List Entry))))
  else none
  else none
theorem run (N : Nat) (o0 : Orc E R) (a0 : List Lead) : runF T (G N) live [] Try.f104 code (sp N) o0 (a0, ()) = m0 N a0 (fun a => o0 loop3 (K3 N o0) (St3 a0 a)) := by kernel_rfl
theorem body3_0 (N : Nat) (o0 : Orc E R) (o1 : Orc E R) (q1 : St E → Option R) (a0 : List Lead) (v1 : Int) (v2 : List Lead) : runA T (G N) live [] o1 body3 (St3 a0 (v1, v2)) (kloop [0, 3, 4] q1 (K3 N o0)) = step3 N a0 (fun a => q1 (St3 a0 a)) (v1, v2) := by kernel_rfl
theorem lp3_eq (N : Nat) (a0 : List Lead) (a : Int × (List Lead)) : (orc T (G N) live [] N 2) loop3 (K3 N (orc T (G N) live [] N 2)) (St3 a0 a) = lp3 N a0 a :=
  (orc_loop (b := body3) (live := [0, 3, 4]) (by kernel_rfl)).trans (iter_eq (St3 a0) _ _ (fun q1 a => by
    have hc := congrFun (congrFun (rfl : (step3 N a0) = (step3 N a0)) (fun a => q1 (St3 a0 a))) a
    obtain ⟨u0, u1⟩ := a
    exact (body3_0 N (orc T (G N) live [] N 2) (orc T (G N) live [] N 1) q1 a0 u0 u1).trans hc) N a)
theorem G_ok (N : Nat) : GamOK Try.prog (G N) := gam_ok (l := [(147, [], laws_toLead.sp N)]) (⟨laws_toLead.snd N, trivial⟩)
theorem snd (N : Nat) : Sound Try.prog E 104 (sp N) :=
  Mir.sound T_OK (G_ok N) mixed Try.func104 (c := code) (by kernel_rfl) (by kernel_rfl) (sp N) (Nat.le_of_ble_eq_true (by kernel_rfl)) live [] (by
    rintro ⟨a0, _⟩ r h
    exact ⟨N, 2, ((run N _ a0).trans (congrArg (m0 N a0) (funext fun a => lp3_eq N a0 a))).trans h⟩)
end laws_toLeadS
namespace laws_toDone
noncomputable def code : Code := Try.f148.body.getD .skip
abbrev live : Live := []
noncomputable def G (N : Nat) : Ctx E := gam [(122, [], laws_toEntry.sp N)]
noncomputable def m0 (N : Nat) (a0 : Done) : Option R :=
  ob (laws_toEntry.m N (Entry.mk a0.Entry.Term a0.Entry.Kind a0.Entry.Data)) fun y1 =>
  some (Done.mk a0.Node a0.Term a0.Index y1)
theorem run (N : Nat) (o0 : Orc E R) (a0 : Done) : runF T (G N) live [] Try.f148 code (sp N) o0 (a0, ()) = m0 N a0 := by kernel_rfl
theorem G_ok (N : Nat) : GamOK Try.prog (G N) := gam_ok (l := [(122, [], laws_toEntry.sp N)]) (⟨laws_toEntry.snd N, trivial⟩)
theorem snd (N : Nat) : Sound Try.prog E 148 (sp N) :=
  Mir.sound T_OK (G_ok N) mixed Try.func148 (c := code) (by kernel_rfl) (by kernel_rfl) (sp N) (Nat.le_of_ble_eq_true (by kernel_rfl)) live [] (by
    rintro ⟨a0, _⟩ r h
    exact ⟨N, 2, ((run N _ a0).trans rfl).trans h⟩)
end laws_toDone
namespace laws_toDoneS
noncomputable def code : Code := Try.f105.body.getD .skip
abbrev live : Live := [(3, [0, 3, 4])]
noncomputable def G (N : Nat) : Ctx E := gam [(148, [], laws_toDone.sp N)]
noncomputable def loop3 : Code := codeAt code [1, 1, 0, 1, 0]
noncomputable def body3 : Code := codeAt loop3 [0]
noncomputable def K3 (N : Nat) (o0 : Orc E R) : KT E R := kAt T (G N) live [] o0 code [1, 1, 0, 1, 0] (kfin T Try.f105 (sp N))
noncomputable def St3 (a0 : List Done) : (Int × (List Done)) → St E
  | (v1, v2) => { ρ := [(0, .c (.at (.ro 164 (.st 164) a0))), (3, .c (.at (.own 0))), (4, .c (.at (.int .i64 v1)))], H := [(0, .row 131 (.st 131) v2 false)], nx := 1, n := 23, pin := [] }
noncomputable def m0 (N : Nat) (a0 : List Done) (lp3 : Int × (List Done) → Option R) : Option R :=
  bif (decide (0 ≤ (a0.length : Int))) then
  bif (room (Int.toNat (a0.length : Int)) 56) then
  lp3 ((0:Int), (List.replicate (Int.toNat (a0.length : Int)) (Done.mk (0:Int) (0:Int) (0:Int) (Entry.mk (0:Int) (0:Int) ByteArray.empty))))
  else none
  else none
theorem run (N : Nat) (o0 : Orc E R) (a0 : List Done) : runF T (G N) live [] Try.f105 code (sp N) o0 (a0, ()) = m0 N a0 (fun a => o0 loop3 (K3 N o0) (St3 a0 a)) := by kernel_rfl
theorem body3_0 (N : Nat) (o0 : Orc E R) (o1 : Orc E R) (q1 : St E → Option R) (a0 : List Done) (v1 : Int) (v2 : List Done) : runA T (G N) live [] o1 body3 (St3 a0 (v1, v2)) (kloop [0, 3, 4] q1 (K3 N o0)) = step3 N a0 (fun a => q1 (St3 a0 a)) (v1, v2) := by kernel_rfl
theorem lp3_eq (N : Nat) (a0 : List Done) (a : Int × (List Done)) : (orc T (G N) live [] N 2) loop3 (K3 N (orc T (G N) live [] N 2)) (St3 a0 a) = lp3 N a0 a :=
  (orc_loop (b := body3) (live := [0, 3, 4]) (by kernel_rfl)).trans (iter_eq (St3 a0) _ _ (fun q1 a => by
    have hc := congrFun (congrFun (rfl : (step3 N a0) = (step3 N a0)) (fun a => q1 (St3 a0 a))) a
    obtain ⟨u0, u1⟩ := a
    exact (body3_0 N (orc T (G N) live [] N 2) (orc T (G N) live [] N 1) q1 a0 u0 u1).trans hc) N a)
theorem G_ok (N : Nat) : GamOK Try.prog (G N) := gam_ok (l := [(148, [], laws_toDone.sp N)]) (⟨laws_toDone.snd N, trivial⟩)
theorem snd (N : Nat) : Sound Try.prog E 105 (sp N) :=
  Mir.sound T_OK (G_ok N) mixed Try.func105 (c := code) (by kernel_rfl) (by kernel_rfl) (sp N) (Nat.le_of_ble_eq_true (by kernel_rfl)) live [] (by
    rintro ⟨a0, _⟩ r h
    exact ⟨N, 2, ((run N _ a0).trans (congrArg (m0 N a0) (funext fun a => lp3_eq N a0 a))).trans h⟩)
end laws_toDoneS
namespace laws_toGroup
noncomputable def code : Code := Try.f47.body.getD .skip
abbrev live : Live := []
noncomputable def G (N : Nat) : Ctx E := gam [(102, [], laws_toNodeS.sp N), (103, [], laws_toMessageS.sp N), (104, [], laws_toLeadS.sp N), (105, [], laws_toDoneS.sp N)]
noncomputable def m0 (N : Nat) (a0 : Group) : Option R :=
  ob (laws_toNodeS.m N a0.Nodes) fun y1 =>
  ob (laws_toMessageS.m N a0.Wire) fun y2 =>
  ob (laws_toLeadS.m N a0.Leads) fun y3 =>
  ob (laws_toDoneS.m N a0.Dones) fun y4 =>
  some (Group.mk y1 y2 y3 y4)
theorem run (N : Nat) (o0 : Orc E R) (a0 : Group) : runF T (G N) live [] Try.f47 code (sp N) o0 (a0, ()) = m0 N a0 := by kernel_rfl
theorem G_ok (N : Nat) : GamOK Try.prog (G N) := gam_ok (l := [(102, [], laws_toNodeS.sp N), (103, [], laws_toMessageS.sp N), (104, [], laws_toLeadS.sp N), (105, [], laws_toDoneS.sp N)]) (⟨laws_toNodeS.snd N, laws_toMessageS.snd N, laws_toLeadS.snd N, laws_toDoneS.snd N, trivial⟩)
theorem snd (N : Nat) : Sound Try.prog E 47 (sp N) :=
  Mir.sound T_OK (G_ok N) mixed Try.func47 (c := code) (by kernel_rfl) (by kernel_rfl) (sp N) (Nat.le_of_ble_eq_true (by kernel_rfl)) live [] (by
    rintro ⟨a0, _⟩ r h
    exact ⟨N, 2, ((run N _ a0).trans rfl).trans h⟩)
end laws_toGroup
namespace spec_l10MessageOK
noncomputable def code : Code := Try.f101.body.getD .skip
abbrev live : Live := []
noncomputable def G (N : Nat) : Ctx E := gam [(53, [], spec_l01In.sp N), (65, [], spec_StateOK.sp N)]
noncomputable def m0 (N : Nat) (a0 : Message) : Option R :=
  ob (spec_l01In.m N a0.Kind (1:Int) (4:Int)) fun y1 =>
  bif (!y1) then
    some false
  else
  ob (spec_l01In.m N a0.From (0:Int) (6:Int)) fun y2 =>
  bif (bif false then true else (!y2)) then
    some false
  else
  ob (spec_l01In.m N a0.To (0:Int) (6:Int)) fun y3 =>
  bif (bif false then true else (!y3)) then
    some false
  else
  bif (bif false then true else (a0.From == a0.To)) then
    some false
  else
  ob (spec_l01In.m N a0.Term (1:Int) (1000000:Int)) fun y4 =>
  bif (bif false then true else (!y4)) then
    some false
  else
  ob (spec_l01In.m N a0.Index (0:Int) (60:Int)) fun y5 =>
  bif (bif false then true else (!y5)) then
    some false
  else
  ob (spec_l01In.m N a0.LogTerm (0:Int) a0.Term) fun y6 =>
  bif (bif false then true else (!y6)) then
    some false
  else
  ob (spec_l01In.m N a0.Commit (0:Int) (60:Int)) fun y7 =>
  bif (bif false then true else (!y7)) then
    some false
  else
  bif (bif false then true else (decide ((a0.Entries.length : Int) > (w64 ((60:Int) - a0.Index))))) then
    some false
  else
  bif (a0.Kind != (3:Int)) then
    some ((a0.Entries.length : Int) == (0:Int))
  else
  ob (spec_StateOK.m N (State.mk a0.Term (0:Int) a0.Entries)) fun y8 =>
  bif y8 then
    bif ((a0.Entries.length : Int) == (0:Int)) then
      bif (bif true then true else false) then
        bif (decide (a0.Index > (0:Int))) then
          some (bif true then true else false)
        else
        some (bif true then (bif false then true else (a0.LogTerm == (0:Int))) else false)
      else
      some false
    else
    bif (decide (0 ≤ (0:Int))) then
    bif (decide ((0:Int) < (a0.Entries.length : Int))) then
    bif (bif true then (bif false then true else (decide ((a0.Entries.getD 0 Entry.dz).Term ≥ a0.LogTerm))) else false) then
      bif (decide (a0.Index > (0:Int))) then
        some (bif true then true else false)
      else
      some (bif true then (bif false then true else (a0.LogTerm == (0:Int))) else false)
    else
    some false
    else none
    else none
  else
  some false
theorem run (N : Nat) (o0 : Orc E R) (a0 : Message) : runF T (G N) live [] Try.f101 code (sp N) o0 (a0, ()) = m0 N a0 := by kernel_rfl
theorem G_ok (N : Nat) : GamOK Try.prog (G N) := gam_ok (l := [(53, [], spec_l01In.sp N), (65, [], spec_StateOK.sp N)]) (⟨spec_l01In.snd N, spec_StateOK.snd N, trivial⟩)
theorem snd (N : Nat) : Sound Try.prog E 101 (sp N) :=
  Mir.sound T_OK (G_ok N) mixed Try.func101 (c := code) (by kernel_rfl) (by kernel_rfl) (sp N) (Nat.le_of_ble_eq_true (by kernel_rfl)) live [] (by
    rintro ⟨a0, _⟩ r h
    exact ⟨N, 2, ((run N _ a0).trans rfl).trans h⟩)
end spec_l10MessageOK
namespace spec_GroupOK
noncomputable def code : Code := Try.f46.body.getD .skip
abbrev live : Live := [(9, [1, 4]), (4, [1, 3])]
noncomputable def G (N : Nat) : Ctx E := gam [(53, [], spec_l01In.sp N), (23, [], spec_NodeOK.sp N), (101, [], spec_l10MessageOK.sp N)]
noncomputable def loop4 : Code := codeAt code [1, 1, 0, 1, 0]
noncomputable def body4 : Code := codeAt loop4 [0]
noncomputable def loop9 : Code := codeAt code [1, 1, 1, 0, 1, 0]
noncomputable def body9 : Code := codeAt loop9 [0]
noncomputable def K4 (N : Nat) (o0 : Orc E R) : KT E R := kAt T (G N) live [] o0 code [1, 1, 0, 1, 0] (kfin T Try.f46 (sp N))
noncomputable def St4 (a0 : Group) : Int → St E
  | v0 => { ρ := [(1, .c (.at (.ptr 0 0))), (3, .c (.at (.int .i64 v0)))], H := [(0, .box 59 [.ro 25 (.st 25) a0.Nodes, .ro 102 (.st 102) a0.Wire, .ro 128 (.st 128) a0.Leads, .ro 131 (.st 131) a0.Dones])], nx := 1, n := 66, pin := [] }
noncomputable def K9 (N : Nat) (o0 : Orc E R) : KT E R := kAt T (G N) live [] o0 code [1, 1, 1, 0, 1, 0] (kfin T Try.f46 (sp N))
noncomputable def St9 (a0 : Group) : Int → St E
  | v0 => { ρ := [(1, .c (.at (.ptr 0 0))), (4, .c (.at (.int .i64 v0)))], H := [(0, .box 59 [.ro 25 (.st 25) a0.Nodes, .ro 102 (.st 102) a0.Wire, .ro 128 (.st 128) a0.Leads, .ro 131 (.st 131) a0.Dones])], nx := 1, n := 66, pin := [] }
noncomputable def m0 (N : Nat) (a0 : Group) (lp4 : Int → Option R) : Option R :=
  ob (spec_l01In.m N (a0.Nodes.length : Int) (1:Int) (5:Int)) fun y1 =>
  bif (!y1) then
    some false
  else
  bif (bif false then true else (decide ((a0.Wire.length : Int) > (60:Int)))) then
    some false
  else
  bif (bif false then true else (decide ((a0.Leads.length : Int) > (4096:Int)))) then
    some false
  else
  bif (bif false then true else (decide ((a0.Dones.length : Int) > (4096:Int)))) then
    some false
  else
  lp4 (0:Int)
theorem run (N : Nat) (o0 : Orc E R) (a0 : Group) : runF T (G N) live [] Try.f46 code (sp N) o0 (a0, ()) = m0 N a0 (fun a => o0 loop4 (K4 N o0) (St4 a0 a)) := by kernel_rfl
theorem body4_0 (N : Nat) (o0 : Orc E R) (o1 : Orc E R) (q1 : St E → Option R) (a0 : Group) (v0 : Int) : runA T (G N) live [] o1 body4 (St4 a0 v0) (kloop [1, 3] q1 (K4 N o0)) = step4 N a0 (fun a => o0 loop9 (K9 N o0) (St9 a0 a)) (fun a => q1 (St4 a0 a)) v0 := by kernel_rfl
theorem body9_0 (N : Nat) (o0 : Orc E R) (o1 : Orc E R) (q1 : St E → Option R) (a0 : Group) (v0 : Int) : runA T (G N) live [] o1 body9 (St9 a0 v0) (kloop [1, 4] q1 (K9 N o0)) = step9 N a0 (fun a => q1 (St9 a0 a)) v0 := by kernel_rfl
theorem lp9_eq (N : Nat) (a0 : Group) (a : Int) : (orc T (G N) live [] N 2) loop9 (K9 N (orc T (G N) live [] N 2)) (St9 a0 a) = lp9 N a0 a :=
  (orc_loop (b := body9) (live := [1, 4]) (by kernel_rfl)).trans (iter_eq (St9 a0) _ _ (fun q1 a => by
    have hc := congrFun (congrFun (rfl : (step9 N a0) = (step9 N a0)) (fun a => q1 (St9 a0 a))) a
    exact (body9_0 N (orc T (G N) live [] N 2) (orc T (G N) live [] N 1) q1 a0 a).trans hc) N a)
theorem lp4_eq (N : Nat) (a0 : Group) (a : Int) : (orc T (G N) live [] N 2) loop4 (K4 N (orc T (G N) live [] N 2)) (St4 a0 a) = lp4 N a0 a :=
  (orc_loop (b := body4) (live := [1, 3]) (by kernel_rfl)).trans (iter_eq (St4 a0) _ _ (fun q1 a => by
    have hc := congrFun (congrFun (congrArg (step4 N a0) (funext fun a => lp9_eq N a0 a)) (fun a => q1 (St4 a0 a))) a
    exact (body4_0 N (orc T (G N) live [] N 2) (orc T (G N) live [] N 1) q1 a0 a).trans hc) N a)
theorem G_ok (N : Nat) : GamOK Try.prog (G N) := gam_ok (l := [(53, [], spec_l01In.sp N), (23, [], spec_NodeOK.sp N), (101, [], spec_l10MessageOK.sp N)]) (⟨spec_l01In.snd N, spec_NodeOK.snd N, spec_l10MessageOK.snd N, trivial⟩)
theorem snd (N : Nat) : Sound Try.prog E 46 (sp N) :=
  Mir.sound T_OK (G_ok N) mixed Try.func46 (c := code) (by kernel_rfl) (by kernel_rfl) (sp N) (Nat.le_of_ble_eq_true (by kernel_rfl)) live [] (by
    rintro ⟨a0, _⟩ r h
    exact ⟨N, 2, ((run N _ a0).trans (congrArg (m0 N a0) (funext fun a => lp4_eq N a0 a))).trans h⟩)
end spec_GroupOK
namespace impl_isList_impl_Lead
noncomputable def code : Code := Try.f106.body.getD .skip
abbrev live : Live := []
noncomputable def G (N : Nat) : Ctx E := gam []
noncomputable def m0 (N : Nat) (a0 : List Lead) : Option R :=
  some (decide ((a0.length : Int) ≤ (4096:Int)))
theorem run (N : Nat) (o0 : Orc E R) (a0 : List Lead) : runF T (G N) live [] Try.f106 code (sp N) o0 (a0, ()) = m0 N a0 := by kernel_rfl
theorem G_ok (N : Nat) : GamOK Try.prog (G N) := gam_ok (l := []) (trivial)
theorem snd (N : Nat) : Sound Try.prog E 106 (sp N) :=
  Mir.sound T_OK (G_ok N) mixed Try.func106 (c := code) (by kernel_rfl) (by kernel_rfl) (sp N) (Nat.le_of_ble_eq_true (by kernel_rfl)) live [] (by
    rintro ⟨a0, _⟩ r h
    exact ⟨N, 2, ((run N _ a0).trans rfl).trans h⟩)
end impl_isList_impl_Lead
namespace impl_isList_impl_Done
noncomputable def code : Code := Try.f107.body.getD .skip
abbrev live : Live := []
noncomputable def G (N : Nat) : Ctx E := gam []
noncomputable def m0 (N : Nat) (a0 : List Done) : Option R :=
  some (decide ((a0.length : Int) ≤ (4096:Int)))
theorem run (N : Nat) (o0 : Orc E R) (a0 : List Done) : runF T (G N) live [] Try.f107 code (sp N) o0 (a0, ()) = m0 N a0 := by kernel_rfl
theorem G_ok (N : Nat) : GamOK Try.prog (G N) := gam_ok (l := []) (trivial)
theorem snd (N : Nat) : Sound Try.prog E 107 (sp N) :=
  Mir.sound T_OK (G_ok N) mixed Try.func107 (c := code) (by kernel_rfl) (by kernel_rfl) (sp N) (Nat.le_of_ble_eq_true (by kernel_rfl)) live [] (by
    rintro ⟨a0, _⟩ r h
    exact ⟨N, 2, ((run N _ a0).trans rfl).trans h⟩)
end impl_isList_impl_Done
namespace impl_Message_entriesOK
noncomputable def code : Code := Try.f150.body.getD .skip
abbrev live : Live := [(3, [1, 3, 9, 10, 11])]
noncomputable def G (N : Nat) : Ctx E := gam [(156, [], impl_entryOK.sp N), (70, [], impl_within.sp N)]
noncomputable def loop3 : Code := codeAt code [1, 1, 0, 1, 0]
noncomputable def body3 : Code := codeAt loop3 [0]
noncomputable def K3 (N : Nat) (o0 : Orc E R) : KT E R := kAt T (G N) live [] o0 code [1, 1, 0, 1, 0] (kfin T Try.f150 (sp N))
noncomputable def St3 (a0 : Message) : (Int × Int × Int) → St E
  | (v0, v2, v3) => { ρ := [(1, .c (.at (.ptr 0 0))), (3, .c (.at (.int .i64 v0))), (9, .c (.at (.ro 96 (.st 96) a0.Entries))), (10, .c (.at (.int .i64 v2))), (11, .c (.at (.int .i64 v3)))], H := [(0, .box 102 [.int .i64 a0.Kind, .int .i64 a0.From, .int .i64 a0.To, .int .i64 a0.Term, .int .i64 a0.Index, .int .i64 a0.LogTerm, .int .i64 a0.Commit, .ro 96 (.st 96) a0.Entries, .bool a0.Ok])], nx := 1, n := 47, pin := [] }
noncomputable def m0 (N : Nat) (a0 : Message) (lp3 : Int × Int × Int → Option R) : Option R :=
  lp3 (a0.LogTerm, (a0.Entries.length : Int), (0:Int))
theorem run (N : Nat) (o0 : Orc E R) (a0 : Message) : runF T (G N) live [] Try.f150 code (sp N) o0 (a0, ()) = m0 N a0 (fun a => o0 loop3 (K3 N o0) (St3 a0 a)) := by kernel_rfl
theorem body3_0 (N : Nat) (o0 : Orc E R) (o1 : Orc E R) (q1 : St E → Option R) (a0 : Message) (v0 : Int) (v2 : Int) (v3 : Int) : runA T (G N) live [] o1 body3 (St3 a0 (v0, v2, v3)) (kloop [1, 3, 9, 10, 11] q1 (K3 N o0)) = step3 N a0 (fun a => q1 (St3 a0 a)) (v0, v2, v3) := by kernel_rfl
theorem lp3_eq (N : Nat) (a0 : Message) (a : Int × Int × Int) : (orc T (G N) live [] N 2) loop3 (K3 N (orc T (G N) live [] N 2)) (St3 a0 a) = lp3 N a0 a :=
  (orc_loop (b := body3) (live := [1, 3, 9, 10, 11]) (by kernel_rfl)).trans (iter_eq (St3 a0) _ _ (fun q1 a => by
    have hc := congrFun (congrFun (rfl : (step3 N a0) = (step3 N a0)) (fun a => q1 (St3 a0 a))) a
    obtain ⟨u0, u1, u2⟩ := a
    exact (body3_0 N (orc T (G N) live [] N 2) (orc T (G N) live [] N 1) q1 a0 u0 u1 u2).trans hc) N a)
theorem G_ok (N : Nat) : GamOK Try.prog (G N) := gam_ok (l := [(156, [], impl_entryOK.sp N), (70, [], impl_within.sp N)]) (⟨impl_entryOK.snd N, impl_within.snd N, trivial⟩)
theorem snd (N : Nat) : Sound Try.prog E 150 (sp N) :=
  Mir.sound T_OK (G_ok N) mixed Try.func150 (c := code) (by kernel_rfl) (by kernel_rfl) (sp N) (Nat.le_of_ble_eq_true (by kernel_rfl)) live [] (by
    rintro ⟨a0, _⟩ r h
    exact ⟨N, 2, ((run N _ a0).trans (congrArg (m0 N a0) (funext fun a => lp3_eq N a0 a))).trans h⟩)
end impl_Message_entriesOK
namespace impl_messageOK
noncomputable def code : Code := Try.f110.body.getD .skip
abbrev live : Live := []
noncomputable def G (N : Nat) : Ctx E := gam [(70, [], impl_within.sp N), (57, [], impl_isNumber.sp N), (150, [], impl_Message_entriesOK.sp N)]
noncomputable def m0 (N : Nat) (a0 : Message) : Option R :=
  ob (impl_within.m N a0.Kind (1:Int) (4:Int)) fun y1 =>
  bif (!y1) then
    some false
  else
  ob (impl_isNumber.m N a0.From) fun y2 =>
  bif (bif false then true else (!y2)) then
    some false
  else
  ob (impl_isNumber.m N a0.To) fun y3 =>
  bif (bif false then true else (!y3)) then
    some false
  else
  bif (bif false then true else (a0.From == a0.To)) then
    some false
  else
  ob (impl_within.m N a0.Term (1:Int) (1000000:Int)) fun y4 =>
  bif (bif false then true else (!y4)) then
    some false
  else
  ob (impl_within.m N a0.LogTerm (0:Int) a0.Term) fun y5 =>
  bif (!y5) then
    some false
  else
  ob (impl_within.m N a0.Index (0:Int) (60:Int)) fun y6 =>
  bif (bif false then true else (!y6)) then
    some false
  else
  ob (impl_within.m N a0.Commit (0:Int) (60:Int)) fun y7 =>
  bif (bif false then true else (!y7)) then
    some false
  else
  bif (a0.Kind != (3:Int)) then
    some ((a0.Entries.length : Int) == (0:Int))
  else
  bif (decide ((a0.Entries.length : Int) ≤ (60:Int))) then
    ob (impl_Message_entriesOK.m N a0) fun y8 =>
    some (bif true then y8 else false)
  else
  some false
theorem run (N : Nat) (o0 : Orc E R) (a0 : Message) : runF T (G N) live [] Try.f110 code (sp N) o0 (a0, ()) = m0 N a0 := by kernel_rfl
theorem G_ok (N : Nat) : GamOK Try.prog (G N) := gam_ok (l := [(70, [], impl_within.sp N), (57, [], impl_isNumber.sp N), (150, [], impl_Message_entriesOK.sp N)]) (⟨impl_within.snd N, impl_isNumber.snd N, impl_Message_entriesOK.snd N, trivial⟩)
theorem snd (N : Nat) : Sound Try.prog E 110 (sp N) :=
  Mir.sound T_OK (G_ok N) mixed Try.func110 (c := code) (by kernel_rfl) (by kernel_rfl) (sp N) (Nat.le_of_ble_eq_true (by kernel_rfl)) live [] (by
    rintro ⟨a0, _⟩ r h
    exact ⟨N, 2, ((run N _ a0).trans rfl).trans h⟩)
end impl_messageOK
namespace impl_GroupOK_1
noncomputable def code : Code := Try.f109.body.getD .skip
abbrev live : Live := []
noncomputable def G (N : Nat) : Ctx E := gam [(110, [], impl_messageOK.sp N)]
noncomputable def m0 (N : Nat) (a0 : Message) : Option R :=
  ob (impl_messageOK.m N a0) fun y1 =>
  some (!y1)
theorem run (N : Nat) (o0 : Orc E R) (a0 : Message) : runF T (G N) live [] Try.f109 code (sp N) o0 (a0, ()) = m0 N a0 := by kernel_rfl
theorem G_ok (N : Nat) : GamOK Try.prog (G N) := gam_ok (l := [(110, [], impl_messageOK.sp N)]) (⟨impl_messageOK.snd N, trivial⟩)
theorem snd (N : Nat) : Sound Try.prog E 109 (sp N) :=
  Mir.sound T_OK (G_ok N) mixed Try.func109 (c := code) (by kernel_rfl) (by kernel_rfl) (sp N) (Nat.le_of_ble_eq_true (by kernel_rfl)) live [] (by
    rintro ⟨a0, _⟩ r h
    exact ⟨N, 2, ((run N _ a0).trans rfl).trans h⟩)
end impl_GroupOK_1
namespace slices_IndexFunc_impl_Message_impl_Message__impl_GroupOK_1
noncomputable def code : Code := Try.f149.body.getD .skip
abbrev live : Live := [(2, [0, 1, 7, 8])]
noncomputable def G (N : Nat) : Ctx E := gam [(109, [], impl_GroupOK_1.sp N)]
noncomputable def loop2 : Code := codeAt code [1, 0, 1, 0]
noncomputable def body2 : Code := codeAt loop2 [0]
noncomputable def K2 (N : Nat) (o0 : Orc E R) : KT E R := kAt T (G N) live [] o0 code [1, 0, 1, 0] (kfin T Try.f149 (sp N))
noncomputable def St2 (a0 : List Message) : (Int × Int) → St E
  | (v1, v2) => { ρ := [(0, .c (.at (.ro 102 (.st 102) a0))), (1, .clo 109 []), (7, .c (.at (.int .i64 v1))), (8, .c (.at (.int .i64 v2)))], H := [], nx := 0, n := 19, pin := [] }
noncomputable def m0 (N : Nat) (a0 : List Message) (lp2 : Int × Int → Option R) : Option R :=
  lp2 ((a0.length : Int), (0:Int))
theorem run (N : Nat) (o0 : Orc E R) (a0 : List Message) : runF T (G N) live [] Try.f149 code (sp N) o0 (a0, (), ()) = m0 N a0 (fun a => o0 loop2 (K2 N o0) (St2 a0 a)) := by kernel_rfl
theorem body2_0 (N : Nat) (o0 : Orc E R) (o1 : Orc E R) (q1 : St E → Option R) (a0 : List Message) (v1 : Int) (v2 : Int) : runA T (G N) live [] o1 body2 (St2 a0 (v1, v2)) (kloop [0, 1, 7, 8] q1 (K2 N o0)) = step2 N a0 (fun a => q1 (St2 a0 a)) (v1, v2) := by kernel_rfl
theorem lp2_eq (N : Nat) (a0 : List Message) (a : Int × Int) : (orc T (G N) live [] N 2) loop2 (K2 N (orc T (G N) live [] N 2)) (St2 a0 a) = lp2 N a0 a :=
  (orc_loop (b := body2) (live := [0, 1, 7, 8]) (by kernel_rfl)).trans (iter_eq (St2 a0) _ _ (fun q1 a => by
    have hc := congrFun (congrFun (rfl : (step2 N a0) = (step2 N a0)) (fun a => q1 (St2 a0 a))) a
    obtain ⟨u0, u1⟩ := a
    exact (body2_0 N (orc T (G N) live [] N 2) (orc T (G N) live [] N 1) q1 a0 u0 u1).trans hc) N a)
theorem G_ok (N : Nat) : GamOK Try.prog (G N) := gam_ok (l := [(109, [], impl_GroupOK_1.sp N)]) (⟨impl_GroupOK_1.snd N, trivial⟩)
theorem snd (N : Nat) : Sound Try.prog E 149 (sp N) :=
  Mir.sound T_OK (G_ok N) mixed Try.func149 (c := code) (by kernel_rfl) (by kernel_rfl) (sp N) (Nat.le_of_ble_eq_true (by kernel_rfl)) live [] (by
    rintro ⟨a0, _, _⟩ r h
    exact ⟨N, 2, ((run N _ a0).trans (congrArg (m0 N a0) (funext fun a => lp2_eq N a0 a))).trans h⟩)
end slices_IndexFunc_impl_Message_impl_Message__impl_GroupOK_1
namespace slices_ContainsFunc_impl_Message_impl_Message__impl_GroupOK_1
noncomputable def code : Code := Try.f108.body.getD .skip
abbrev live : Live := []
noncomputable def G (N : Nat) : Ctx E := gam [(149, [109], slices_IndexFunc_impl_Message_impl_Message__impl_GroupOK_1.sp N)]
noncomputable def m0 (N : Nat) (a0 : List Message) : Option R :=
  ob (slices_IndexFunc_impl_Message_impl_Message__impl_GroupOK_1.m N a0) fun y1 =>
  some (decide (y1 ≥ (0:Int)))
theorem run (N : Nat) (o0 : Orc E R) (a0 : List Message) : runF T (G N) live [] Try.f108 code (sp N) o0 (a0, (), ()) = m0 N a0 := by kernel_rfl
theorem G_ok (N : Nat) : GamOK Try.prog (G N) := gam_ok (l := [(149, [109], slices_IndexFunc_impl_Message_impl_Message__impl_GroupOK_1.sp N)]) (⟨slices_IndexFunc_impl_Message_impl_Message__impl_GroupOK_1.snd N, trivial⟩)
theorem snd (N : Nat) : Sound Try.prog E 108 (sp N) :=
  Mir.sound T_OK (G_ok N) mixed Try.func108 (c := code) (by kernel_rfl) (by kernel_rfl) (sp N) (Nat.le_of_ble_eq_true (by kernel_rfl)) live [] (by
    rintro ⟨a0, _, _⟩ r h
    exact ⟨N, 2, ((run N _ a0).trans rfl).trans h⟩)
end slices_ContainsFunc_impl_Message_impl_Message__impl_GroupOK_1
namespace impl_GroupOK
noncomputable def code : Code := Try.f48.body.getD .skip
abbrev live : Live := [(4, [1, 29, 30, 31])]
noncomputable def G (N : Nat) : Ctx E := gam [(70, [], impl_within.sp N), (106, [], impl_isList_impl_Lead.sp N), (107, [], impl_isList_impl_Done.sp N), (25, [], impl_NodeOK.sp N), (108, [109], slices_ContainsFunc_impl_Message_impl_Message__impl_GroupOK_1.sp N)]
noncomputable def loop4 : Code := codeAt code [1, 1, 0, 1, 0]
noncomputable def body4 : Code := codeAt loop4 [0]
noncomputable def K4 (N : Nat) (o0 : Orc E R) : KT E R := kAt T (G N) live [] o0 code [1, 1, 0, 1, 0] (kfin T Try.f48 (sp N))
noncomputable def St4 (a0 : Group) : (Int × Int) → St E
  | (v1, v2) => { ρ := [(1, .c (.at (.ptr 0 0))), (29, .c (.at (.ro 25 (.st 25) a0.Nodes))), (30, .c (.at (.int .i64 v1))), (31, .c (.at (.int .i64 v2)))], H := [(0, .box 59 [.ro 25 (.st 25) a0.Nodes, .ro 102 (.st 102) a0.Wire, .ro 128 (.st 128) a0.Leads, .ro 131 (.st 131) a0.Dones])], nx := 1, n := 50, pin := [] }
noncomputable def m0 (N : Nat) (a0 : Group) (lp4 : Int × Int → Option R) : Option R :=
  ob (impl_within.m N (a0.Nodes.length : Int) (1:Int) (5:Int)) fun y1 =>
  bif (!y1) then
    some false
  else
  bif (bif false then true else (decide ((a0.Wire.length : Int) > (60:Int)))) then
    some false
  else
  ob (impl_isList_impl_Lead.m N a0.Leads) fun y2 =>
  bif (bif false then true else (!y2)) then
    some false
  else
  ob (impl_isList_impl_Done.m N a0.Dones) fun y3 =>
  bif (bif false then true else (!y3)) then
    some false
  else
  lp4 ((a0.Nodes.length : Int), (0:Int))
theorem run (N : Nat) (o0 : Orc E R) (a0 : Group) : runF T (G N) live [] Try.f48 code (sp N) o0 (a0, ()) = m0 N a0 (fun a => o0 loop4 (K4 N o0) (St4 a0 a)) := by kernel_rfl
theorem body4_0 (N : Nat) (o0 : Orc E R) (o1 : Orc E R) (q1 : St E → Option R) (a0 : Group) (v1 : Int) (v2 : Int) : runA T (G N) live [] o1 body4 (St4 a0 (v1, v2)) (kloop [1, 29, 30, 31] q1 (K4 N o0)) = step4 N a0 (fun a => q1 (St4 a0 a)) (v1, v2) := by kernel_rfl
theorem lp4_eq (N : Nat) (a0 : Group) (a : Int × Int) : (orc T (G N) live [] N 2) loop4 (K4 N (orc T (G N) live [] N 2)) (St4 a0 a) = lp4 N a0 a :=
  (orc_loop (b := body4) (live := [1, 29, 30, 31]) (by kernel_rfl)).trans (iter_eq (St4 a0) _ _ (fun q1 a => by
    have hc := congrFun (congrFun (rfl : (step4 N a0) = (step4 N a0)) (fun a => q1 (St4 a0 a))) a
    obtain ⟨u0, u1⟩ := a
    exact (body4_0 N (orc T (G N) live [] N 2) (orc T (G N) live [] N 1) q1 a0 u0 u1).trans hc) N a)
theorem G_ok (N : Nat) : GamOK Try.prog (G N) := gam_ok (l := [(70, [], impl_within.sp N), (106, [], impl_isList_impl_Lead.sp N), (107, [], impl_isList_impl_Done.sp N), (25, [], impl_NodeOK.sp N), (108, [109], slices_ContainsFunc_impl_Message_impl_Message__impl_GroupOK_1.sp N)]) (⟨impl_within.snd N, impl_isList_impl_Lead.snd N, impl_isList_impl_Done.snd N, impl_NodeOK.snd N, slices_ContainsFunc_impl_Message_impl_Message__impl_GroupOK_1.snd N, trivial⟩)
theorem snd (N : Nat) : Sound Try.prog E 48 (sp N) :=
  Mir.sound T_OK (G_ok N) mixed Try.func48 (c := code) (by kernel_rfl) (by kernel_rfl) (sp N) (Nat.le_of_ble_eq_true (by kernel_rfl)) live [] (by
    rintro ⟨a0, _⟩ r h
    exact ⟨N, 2, ((run N _ a0).trans (congrArg (m0 N a0) (funext fun a => lp4_eq N a0 a))).trans h⟩)
end impl_GroupOK
namespace laws_eqNodeS
noncomputable def code : Code := Try.f88.body.getD .skip
abbrev live : Live := [(4, [0, 1, 5])]
noncomputable def G (N : Nat) : Ctx E := gam [(17, [], laws_eqNode.sp N)]
noncomputable def loop4 : Code := codeAt code [1, 1, 0, 1, 0]
noncomputable def body4 : Code := codeAt loop4 [0]
noncomputable def K4 (N : Nat) (o0 : Orc E R) : KT E R := kAt T (G N) live [] o0 code [1, 1, 0, 1, 0] (kfin T Try.f88 (sp N))
noncomputable def St4 (a0 : List Node) (a1 : List Node) : Int → St E
  | v2 => { ρ := [(0, .c (.at (.ro 25 (.st 25) a0))), (1, .c (.at (.ro 25 (.st 25) a1))), (5, .c (.at (.int .i64 v2)))], H := [], nx := 0, n := 27, pin := [] }
noncomputable def m0 (N : Nat) (a0 : List Node) (a1 : List Node) (lp4 : Int → Option R) : Option R :=
  bif ((a0.length : Int) != (a1.length : Int)) then
    some false
  else
  lp4 (0:Int)
theorem run (N : Nat) (o0 : Orc E R) (a0 : List Node) (a1 : List Node) : runF T (G N) live [] Try.f88 code (sp N) o0 (a0, a1, ()) = m0 N a0 a1 (fun a => o0 loop4 (K4 N o0) (St4 a0 a1 a)) := by kernel_rfl
theorem body4_0 (N : Nat) (o0 : Orc E R) (o1 : Orc E R) (q1 : St E → Option R) (a0 : List Node) (a1 : List Node) (v2 : Int) : runA T (G N) live [] o1 body4 (St4 a0 a1 v2) (kloop [0, 1, 5] q1 (K4 N o0)) = step4 N a0 a1 (fun a => q1 (St4 a0 a1 a)) v2 := by kernel_rfl
theorem lp4_eq (N : Nat) (a0 : List Node) (a1 : List Node) (a : Int) : (orc T (G N) live [] N 2) loop4 (K4 N (orc T (G N) live [] N 2)) (St4 a0 a1 a) = lp4 N a0 a1 a :=
  (orc_loop (b := body4) (live := [0, 1, 5]) (by kernel_rfl)).trans (iter_eq (St4 a0 a1) _ _ (fun q1 a => by
    have hc := congrFun (congrFun (rfl : (step4 N a0 a1) = (step4 N a0 a1)) (fun a => q1 (St4 a0 a1 a))) a
    exact (body4_0 N (orc T (G N) live [] N 2) (orc T (G N) live [] N 1) q1 a0 a1 a).trans hc) N a)
theorem G_ok (N : Nat) : GamOK Try.prog (G N) := gam_ok (l := [(17, [], laws_eqNode.sp N)]) (⟨laws_eqNode.snd N, trivial⟩)
theorem snd (N : Nat) : Sound Try.prog E 88 (sp N) :=
  Mir.sound T_OK (G_ok N) mixed Try.func88 (c := code) (by kernel_rfl) (by kernel_rfl) (sp N) (Nat.le_of_ble_eq_true (by kernel_rfl)) live [] (by
    rintro ⟨a0, a1, _⟩ r h
    exact ⟨N, 2, ((run N _ a0 a1).trans (congrArg (m0 N a0 a1) (funext fun a => lp4_eq N a0 a1 a))).trans h⟩)
end laws_eqNodeS
namespace laws_eqMessage
noncomputable def code : Code := Try.f82.body.getD .skip
abbrev live : Live := []
noncomputable def G (N : Nat) : Ctx E := gam [(60, [], laws_eqEntryS.sp N)]
noncomputable def m0 (N : Nat) (a0 : Message) (a1 : Message) : Option R :=
  bif (a0.Kind != a1.Kind) then
    some false
  else
  bif (a0.From != a1.From) then
    some false
  else
  bif (a0.To != a1.To) then
    some false
  else
  bif (a0.Term != a1.Term) then
    some false
  else
  bif (a0.Index != a1.Index) then
    some false
  else
  bif (a0.LogTerm != a1.LogTerm) then
    some false
  else
  bif (a0.Commit != a1.Commit) then
    some false
  else
  ob (laws_eqEntryS.m N a0.Entries a1.Entries) fun y1 =>
  bif (!y1) then
    some false
  else
  bif (!(a0.Ok == a1.Ok)) then
    some false
  else
  some true
theorem run (N : Nat) (o0 : Orc E R) (a0 : Message) (a1 : Message) : runF T (G N) live [] Try.f82 code (sp N) o0 (a0, a1, ()) = m0 N a0 a1 := by kernel_rfl
theorem G_ok (N : Nat) : GamOK Try.prog (G N) := gam_ok (l := [(60, [], laws_eqEntryS.sp N)]) (⟨laws_eqEntryS.snd N, trivial⟩)
theorem snd (N : Nat) : Sound Try.prog E 82 (sp N) :=
  Mir.sound T_OK (G_ok N) mixed Try.func82 (c := code) (by kernel_rfl) (by kernel_rfl) (sp N) (Nat.le_of_ble_eq_true (by kernel_rfl)) live [] (by
    rintro ⟨a0, a1, _⟩ r h
    exact ⟨N, 2, ((run N _ a0 a1).trans rfl).trans h⟩)
end laws_eqMessage
namespace laws_eqMessageS
noncomputable def code : Code := Try.f35.body.getD .skip
abbrev live : Live := [(4, [0, 1, 5])]
noncomputable def G (N : Nat) : Ctx E := gam [(82, [], laws_eqMessage.sp N)]
noncomputable def loop4 : Code := codeAt code [1, 1, 0, 1, 0]
noncomputable def body4 : Code := codeAt loop4 [0]
noncomputable def K4 (N : Nat) (o0 : Orc E R) : KT E R := kAt T (G N) live [] o0 code [1, 1, 0, 1, 0] (kfin T Try.f35 (sp N))
noncomputable def St4 (a0 : List Message) (a1 : List Message) : Int → St E
  | v2 => { ρ := [(0, .c (.at (.ro 102 (.st 102) a0))), (1, .c (.at (.ro 102 (.st 102) a1))), (5, .c (.at (.int .i64 v2)))], H := [], nx := 0, n := 27, pin := [] }
noncomputable def m0 (N : Nat) (a0 : List Message) (a1 : List Message) (lp4 : Int → Option R) : Option R :=
  bif ((a0.length : Int) != (a1.length : Int)) then
    some false
  else
  lp4 (0:Int)
theorem run (N : Nat) (o0 : Orc E R) (a0 : List Message) (a1 : List Message) : runF T (G N) live [] Try.f35 code (sp N) o0 (a0, a1, ()) = m0 N a0 a1 (fun a => o0 loop4 (K4 N o0) (St4 a0 a1 a)) := by kernel_rfl
theorem body4_0 (N : Nat) (o0 : Orc E R) (o1 : Orc E R) (q1 : St E → Option R) (a0 : List Message) (a1 : List Message) (v2 : Int) : runA T (G N) live [] o1 body4 (St4 a0 a1 v2) (kloop [0, 1, 5] q1 (K4 N o0)) = step4 N a0 a1 (fun a => q1 (St4 a0 a1 a)) v2 := by kernel_rfl
theorem lp4_eq (N : Nat) (a0 : List Message) (a1 : List Message) (a : Int) : (orc T (G N) live [] N 2) loop4 (K4 N (orc T (G N) live [] N 2)) (St4 a0 a1 a) = lp4 N a0 a1 a :=
  (orc_loop (b := body4) (live := [0, 1, 5]) (by kernel_rfl)).trans (iter_eq (St4 a0 a1) _ _ (fun q1 a => by
    have hc := congrFun (congrFun (rfl : (step4 N a0 a1) = (step4 N a0 a1)) (fun a => q1 (St4 a0 a1 a))) a
    exact (body4_0 N (orc T (G N) live [] N 2) (orc T (G N) live [] N 1) q1 a0 a1 a).trans hc) N a)
theorem G_ok (N : Nat) : GamOK Try.prog (G N) := gam_ok (l := [(82, [], laws_eqMessage.sp N)]) (⟨laws_eqMessage.snd N, trivial⟩)
theorem snd (N : Nat) : Sound Try.prog E 35 (sp N) :=
  Mir.sound T_OK (G_ok N) mixed Try.func35 (c := code) (by kernel_rfl) (by kernel_rfl) (sp N) (Nat.le_of_ble_eq_true (by kernel_rfl)) live [] (by
    rintro ⟨a0, a1, _⟩ r h
    exact ⟨N, 2, ((run N _ a0 a1).trans (congrArg (m0 N a0 a1) (funext fun a => lp4_eq N a0 a1 a))).trans h⟩)
end laws_eqMessageS
namespace laws_eqLead
noncomputable def code : Code := Try.f141.body.getD .skip
abbrev live : Live := []
noncomputable def G (N : Nat) : Ctx E := gam [(60, [], laws_eqEntryS.sp N)]
noncomputable def m0 (N : Nat) (a0 : Lead) (a1 : Lead) : Option R :=
  bif (a0.Term != a1.Term) then
    some false
  else
  bif (a0.Id != a1.Id) then
    some false
  else
  ob (laws_eqEntryS.m N a0.Log a1.Log) fun y1 =>
  bif (!y1) then
    some false
  else
  some true
theorem run (N : Nat) (o0 : Orc E R) (a0 : Lead) (a1 : Lead) : runF T (G N) live [] Try.f141 code (sp N) o0 (a0, a1, ()) = m0 N a0 a1 := by kernel_rfl
theorem G_ok (N : Nat) : GamOK Try.prog (G N) := gam_ok (l := [(60, [], laws_eqEntryS.sp N)]) (⟨laws_eqEntryS.snd N, trivial⟩)
theorem snd (N : Nat) : Sound Try.prog E 141 (sp N) :=
  Mir.sound T_OK (G_ok N) mixed Try.func141 (c := code) (by kernel_rfl) (by kernel_rfl) (sp N) (Nat.le_of_ble_eq_true (by kernel_rfl)) live [] (by
    rintro ⟨a0, a1, _⟩ r h
    exact ⟨N, 2, ((run N _ a0 a1).trans rfl).trans h⟩)
end laws_eqLead
namespace laws_eqLeadS
noncomputable def code : Code := Try.f89.body.getD .skip
abbrev live : Live := [(4, [0, 1, 5])]
noncomputable def G (N : Nat) : Ctx E := gam [(141, [], laws_eqLead.sp N)]
noncomputable def loop4 : Code := codeAt code [1, 1, 0, 1, 0]
noncomputable def body4 : Code := codeAt loop4 [0]
noncomputable def K4 (N : Nat) (o0 : Orc E R) : KT E R := kAt T (G N) live [] o0 code [1, 1, 0, 1, 0] (kfin T Try.f89 (sp N))
noncomputable def St4 (a0 : List Lead) (a1 : List Lead) : Int → St E
  | v2 => { ρ := [(0, .c (.at (.ro 128 (.st 128) a0))), (1, .c (.at (.ro 128 (.st 128) a1))), (5, .c (.at (.int .i64 v2)))], H := [], nx := 0, n := 27, pin := [] }
noncomputable def m0 (N : Nat) (a0 : List Lead) (a1 : List Lead) (lp4 : Int → Option R) : Option R :=
  bif ((a0.length : Int) != (a1.length : Int)) then
    some false
  else
  lp4 (0:Int)
theorem run (N : Nat) (o0 : Orc E R) (a0 : List Lead) (a1 : List Lead) : runF T (G N) live [] Try.f89 code (sp N) o0 (a0, a1, ()) = m0 N a0 a1 (fun a => o0 loop4 (K4 N o0) (St4 a0 a1 a)) := by kernel_rfl
theorem body4_0 (N : Nat) (o0 : Orc E R) (o1 : Orc E R) (q1 : St E → Option R) (a0 : List Lead) (a1 : List Lead) (v2 : Int) : runA T (G N) live [] o1 body4 (St4 a0 a1 v2) (kloop [0, 1, 5] q1 (K4 N o0)) = step4 N a0 a1 (fun a => q1 (St4 a0 a1 a)) v2 := by kernel_rfl
theorem lp4_eq (N : Nat) (a0 : List Lead) (a1 : List Lead) (a : Int) : (orc T (G N) live [] N 2) loop4 (K4 N (orc T (G N) live [] N 2)) (St4 a0 a1 a) = lp4 N a0 a1 a :=
  (orc_loop (b := body4) (live := [0, 1, 5]) (by kernel_rfl)).trans (iter_eq (St4 a0 a1) _ _ (fun q1 a => by
    have hc := congrFun (congrFun (rfl : (step4 N a0 a1) = (step4 N a0 a1)) (fun a => q1 (St4 a0 a1 a))) a
    exact (body4_0 N (orc T (G N) live [] N 2) (orc T (G N) live [] N 1) q1 a0 a1 a).trans hc) N a)
theorem G_ok (N : Nat) : GamOK Try.prog (G N) := gam_ok (l := [(141, [], laws_eqLead.sp N)]) (⟨laws_eqLead.snd N, trivial⟩)
theorem snd (N : Nat) : Sound Try.prog E 89 (sp N) :=
  Mir.sound T_OK (G_ok N) mixed Try.func89 (c := code) (by kernel_rfl) (by kernel_rfl) (sp N) (Nat.le_of_ble_eq_true (by kernel_rfl)) live [] (by
    rintro ⟨a0, a1, _⟩ r h
    exact ⟨N, 2, ((run N _ a0 a1).trans (congrArg (m0 N a0 a1) (funext fun a => lp4_eq N a0 a1 a))).trans h⟩)
end laws_eqLeadS
namespace laws_eqDone
noncomputable def code : Code := Try.f142.body.getD .skip
abbrev live : Live := []
noncomputable def G (N : Nat) : Ctx E := gam [(118, [], laws_eqEntry.sp N)]
noncomputable def m0 (N : Nat) (a0 : Done) (a1 : Done) : Option R :=
  bif (a0.Node != a1.Node) then
    some false
  else
  bif (a0.Term != a1.Term) then
    some false
  else
  bif (a0.Index != a1.Index) then
    some false
  else
  ob (laws_eqEntry.m N (Entry.mk a0.Entry.Term a0.Entry.Kind a0.Entry.Data) (Entry.mk a1.Entry.Term a1.Entry.Kind a1.Entry.Data)) fun y1 =>
  bif (!y1) then
    some false
  else
  some true
theorem run (N : Nat) (o0 : Orc E R) (a0 : Done) (a1 : Done) : runF T (G N) live [] Try.f142 code (sp N) o0 (a0, a1, ()) = m0 N a0 a1 := by kernel_rfl
theorem G_ok (N : Nat) : GamOK Try.prog (G N) := gam_ok (l := [(118, [], laws_eqEntry.sp N)]) (⟨laws_eqEntry.snd N, trivial⟩)
theorem snd (N : Nat) : Sound Try.prog E 142 (sp N) :=
  Mir.sound T_OK (G_ok N) mixed Try.func142 (c := code) (by kernel_rfl) (by kernel_rfl) (sp N) (Nat.le_of_ble_eq_true (by kernel_rfl)) live [] (by
    rintro ⟨a0, a1, _⟩ r h
    exact ⟨N, 2, ((run N _ a0 a1).trans rfl).trans h⟩)
end laws_eqDone
namespace laws_eqDoneS
noncomputable def code : Code := Try.f90.body.getD .skip
abbrev live : Live := [(4, [0, 1, 5])]
noncomputable def G (N : Nat) : Ctx E := gam [(142, [], laws_eqDone.sp N)]
noncomputable def loop4 : Code := codeAt code [1, 1, 0, 1, 0]
noncomputable def body4 : Code := codeAt loop4 [0]
noncomputable def K4 (N : Nat) (o0 : Orc E R) : KT E R := kAt T (G N) live [] o0 code [1, 1, 0, 1, 0] (kfin T Try.f90 (sp N))
noncomputable def St4 (a0 : List Done) (a1 : List Done) : Int → St E
  | v2 => { ρ := [(0, .c (.at (.ro 131 (.st 131) a0))), (1, .c (.at (.ro 131 (.st 131) a1))), (5, .c (.at (.int .i64 v2)))], H := [], nx := 0, n := 27, pin := [] }
noncomputable def m0 (N : Nat) (a0 : List Done) (a1 : List Done) (lp4 : Int → Option R) : Option R :=
  bif ((a0.length : Int) != (a1.length : Int)) then
    some false
  else
  lp4 (0:Int)
theorem run (N : Nat) (o0 : Orc E R) (a0 : List Done) (a1 : List Done) : runF T (G N) live [] Try.f90 code (sp N) o0 (a0, a1, ()) = m0 N a0 a1 (fun a => o0 loop4 (K4 N o0) (St4 a0 a1 a)) := by kernel_rfl
theorem body4_0 (N : Nat) (o0 : Orc E R) (o1 : Orc E R) (q1 : St E → Option R) (a0 : List Done) (a1 : List Done) (v2 : Int) : runA T (G N) live [] o1 body4 (St4 a0 a1 v2) (kloop [0, 1, 5] q1 (K4 N o0)) = step4 N a0 a1 (fun a => q1 (St4 a0 a1 a)) v2 := by kernel_rfl
theorem lp4_eq (N : Nat) (a0 : List Done) (a1 : List Done) (a : Int) : (orc T (G N) live [] N 2) loop4 (K4 N (orc T (G N) live [] N 2)) (St4 a0 a1 a) = lp4 N a0 a1 a :=
  (orc_loop (b := body4) (live := [0, 1, 5]) (by kernel_rfl)).trans (iter_eq (St4 a0 a1) _ _ (fun q1 a => by
    have hc := congrFun (congrFun (rfl : (step4 N a0 a1) = (step4 N a0 a1)) (fun a => q1 (St4 a0 a1 a))) a
    exact (body4_0 N (orc T (G N) live [] N 2) (orc T (G N) live [] N 1) q1 a0 a1 a).trans hc) N a)
theorem G_ok (N : Nat) : GamOK Try.prog (G N) := gam_ok (l := [(142, [], laws_eqDone.sp N)]) (⟨laws_eqDone.snd N, trivial⟩)
theorem snd (N : Nat) : Sound Try.prog E 90 (sp N) :=
  Mir.sound T_OK (G_ok N) mixed Try.func90 (c := code) (by kernel_rfl) (by kernel_rfl) (sp N) (Nat.le_of_ble_eq_true (by kernel_rfl)) live [] (by
    rintro ⟨a0, a1, _⟩ r h
    exact ⟨N, 2, ((run N _ a0 a1).trans (congrArg (m0 N a0 a1) (funext fun a => lp4_eq N a0 a1 a))).trans h⟩)
end laws_eqDoneS
namespace laws_eqGroup
noncomputable def code : Code := Try.f42.body.getD .skip
abbrev live : Live := []
noncomputable def G (N : Nat) : Ctx E := gam [(88, [], laws_eqNodeS.sp N), (35, [], laws_eqMessageS.sp N), (89, [], laws_eqLeadS.sp N), (90, [], laws_eqDoneS.sp N)]
noncomputable def m0 (N : Nat) (a0 : Group) (a1 : Group) : Option R :=
  ob (laws_eqNodeS.m N a0.Nodes a1.Nodes) fun y1 =>
  bif (!y1) then
    some false
  else
  ob (laws_eqMessageS.m N a0.Wire a1.Wire) fun y2 =>
  bif (!y2) then
    some false
  else
  ob (laws_eqLeadS.m N a0.Leads a1.Leads) fun y3 =>
  bif (!y3) then
    some false
  else
  ob (laws_eqDoneS.m N a0.Dones a1.Dones) fun y4 =>
  bif (!y4) then
    some false
  else
  some true
theorem run (N : Nat) (o0 : Orc E R) (a0 : Group) (a1 : Group) : runF T (G N) live [] Try.f42 code (sp N) o0 (a0, a1, ()) = m0 N a0 a1 := by kernel_rfl
theorem G_ok (N : Nat) : GamOK Try.prog (G N) := gam_ok (l := [(88, [], laws_eqNodeS.sp N), (35, [], laws_eqMessageS.sp N), (89, [], laws_eqLeadS.sp N), (90, [], laws_eqDoneS.sp N)]) (⟨laws_eqNodeS.snd N, laws_eqMessageS.snd N, laws_eqLeadS.snd N, laws_eqDoneS.snd N, trivial⟩)
theorem snd (N : Nat) : Sound Try.prog E 42 (sp N) :=
  Mir.sound T_OK (G_ok N) mixed Try.func42 (c := code) (by kernel_rfl) (by kernel_rfl) (sp N) (Nat.le_of_ble_eq_true (by kernel_rfl)) live [] (by
    rintro ⟨a0, a1, _⟩ r h
    exact ⟨N, 2, ((run N _ a0 a1).trans rfl).trans h⟩)
end laws_eqGroup
namespace laws_FnExactGroupOK
noncomputable def code : Code := Try.f11.body.getD .skip
abbrev live : Live := []
noncomputable def G (N : Nat) : Ctx E := gam [(45, [], laws_szGroup.sp N), (47, [], laws_toGroup.sp N), (46, [], spec_GroupOK.sp N), (48, [], impl_GroupOK.sp N), (42, [], laws_eqGroup.sp N)]
noncomputable def m0 (N : Nat) (a0 : Group) : Option R :=
  ob (laws_szGroup.m N (Group.mk a0.Nodes a0.Wire a0.Leads a0.Dones) (1048576:Int)) fun y1 =>
  bif (decide (y1 < (0:Int))) then
    some true
  else
  ob (laws_toGroup.m N (Group.mk a0.Nodes a0.Wire a0.Leads a0.Dones)) fun y2 =>
  ob (spec_GroupOK.m N y2) fun y3 =>
  ob (laws_toGroup.m N a0) fun y4 =>
  ob (impl_GroupOK.m N y4) fun y5 =>
  bif (!(y5 == y3)) then
    some false
  else
  ob (laws_toGroup.m N a0) fun y6 =>
  ob (laws_eqGroup.m N y4 y6) fun y7 =>
  bif (!y7) then
    some false
  else
  some true
theorem run (N : Nat) (o0 : Orc E R) (a0 : Group) : runF T (G N) live [] Try.f11 code (sp N) o0 (a0, ()) = m0 N a0 := by kernel_rfl
theorem G_ok (N : Nat) : GamOK Try.prog (G N) := gam_ok (l := [(45, [], laws_szGroup.sp N), (47, [], laws_toGroup.sp N), (46, [], spec_GroupOK.sp N), (48, [], impl_GroupOK.sp N), (42, [], laws_eqGroup.sp N)]) (⟨laws_szGroup.snd N, laws_toGroup.snd N, spec_GroupOK.snd N, impl_GroupOK.snd N, laws_eqGroup.snd N, trivial⟩)
theorem snd (N : Nat) : Sound Try.prog E 11 (sp N) :=
  Mir.sound T_OK (G_ok N) mixed Try.func11 (c := code) (by kernel_rfl) (by kernel_rfl) (sp N) (Nat.le_of_ble_eq_true (by kernel_rfl)) live [] (by
    rintro ⟨a0, _⟩ r h
    exact ⟨N, 2, ((run N _ a0).trans rfl).trans h⟩)
end laws_FnExactGroupOK
namespace spec_l12Match
noncomputable def code : Code := Try.f111.body.getD .skip
abbrev live : Live := [(6, [0, 1, 5, 6]), (2, [0, 1, 5])]
noncomputable def G (N : Nat) : Ctx E := gam []
noncomputable def loop2 : Code := codeAt code [1, 0, 1, 0]
noncomputable def body2 : Code := codeAt loop2 [0]
noncomputable def loop6 : Code := codeAt body2 [1, 0, 0, 1, 0, 1, 0]
noncomputable def body6 : Code := codeAt loop6 [0]
noncomputable def K2 (N : Nat) (o0 : Orc E R) : KT E R := kAt T (G N) live [] o0 code [1, 0, 1, 0] (kfin T Try.f111 (sp N))
noncomputable def St2 (a0 : List Entry) (a1 : List Entry) : Int → St E
  | v2 => { ρ := [(0, .c (.at (.ro 96 (.st 96) a0))), (1, .c (.at (.ro 96 (.st 96) a1))), (5, .c (.at (.int .i64 v2)))], H := [], nx := 0, n := 42, pin := [] }
noncomputable def K6 (N : Nat) (o0 : Orc E R) (o1 : Orc E R) (q1 : St E → Option R) : KT E R := kAt T (G N) live [] o1 body2 [1, 0, 0, 1, 0, 1, 0] (kloop [0, 1, 5] q1 (K2 N o0))
noncomputable def St6 (a0 : List Entry) (a1 : List Entry) : (Int × Int) → St E
  | (v2, v3) => { ρ := [(0, .c (.at (.ro 96 (.st 96) a0))), (1, .c (.at (.ro 96 (.st 96) a1))), (5, .c (.at (.int .i64 v2))), (6, .c (.at (.int .i64 v3)))], H := [], nx := 0, n := 42, pin := [] }
noncomputable def m0 (N : Nat) (a0 : List Entry) (a1 : List Entry) (lp2 : Int → Option R) : Option R :=
  lp2 (w64 ((if (a1.length : Int) < (a0.length : Int) then (a1.length : Int) else (a0.length : Int)) - (1:Int)))
theorem run (N : Nat) (o0 : Orc E R) (a0 : List Entry) (a1 : List Entry) : runF T (G N) live [] Try.f111 code (sp N) o0 (a0, a1, ()) = m0 N a0 a1 (fun a => o0 loop2 (K2 N o0) (St2 a0 a1 a)) := by kernel_rfl
theorem body2_0 (N : Nat) (o0 : Orc E R) (o1 : Orc E R) (q1 : St E → Option R) (a0 : List Entry) (a1 : List Entry) (v2 : Int) : runA T (G N) live [] o1 body2 (St2 a0 a1 v2) (kloop [0, 1, 5] q1 (K2 N o0)) = step2 N a0 a1 (fun a => o1 loop6 (K6 N o0 o1 q1) (St6 a0 a1 a)) (fun a => q1 (St2 a0 a1 a)) v2 := by kernel_rfl
theorem body6_0 (N : Nat) (o0 : Orc E R) (o1 : Orc E R) (o2 : Orc E R) (q1 : St E → Option R) (q2 : St E → Option R) (a0 : List Entry) (a1 : List Entry) (v2 : Int) (v3 : Int) : runA T (G N) live [] o2 body6 (St6 a0 a1 (v2, v3)) (kloop [0, 1, 5, 6] q2 (K6 N o0 o1 q1)) = step6 N a0 a1 (fun a => q2 (St6 a0 a1 a)) (v2, v3) := by kernel_rfl
theorem lp6_eq (N : Nat) (a0 : List Entry) (a1 : List Entry) (q1 : St E → Option R) (a : Int × Int) : (orc T (G N) live [] N 2) loop6 (K6 N (orc T (G N) live [] N 3) (orc T (G N) live [] N 2) q1) (St6 a0 a1 a) = lp6 N a0 a1 (fun a => q1 (St2 a0 a1 a)) a :=
  (orc_loop (b := body6) (live := [0, 1, 5, 6]) (by kernel_rfl)).trans (iter_eq (St6 a0 a1) _ _ (fun q2 a => by
    have hc := congrFun (congrFun (rfl : (step6 N a0 a1) = (step6 N a0 a1)) (fun a => q2 (St6 a0 a1 a))) a
    obtain ⟨u0, u1⟩ := a
    exact (body6_0 N (orc T (G N) live [] N 3) (orc T (G N) live [] N 2) (orc T (G N) live [] N 1) q1 q2 a0 a1 u0 u1).trans hc) N a)
theorem lp2_eq (N : Nat) (a0 : List Entry) (a1 : List Entry) (a : Int) : (orc T (G N) live [] N 3) loop2 (K2 N (orc T (G N) live [] N 3)) (St2 a0 a1 a) = lp2 N a0 a1 a :=
  (orc_loop (b := body2) (live := [0, 1, 5]) (by kernel_rfl)).trans (iter_eq (St2 a0 a1) _ _ (fun q1 a => by
    have hc := congrFun (congrFun (congrArg (step2 N a0 a1) (funext fun a => lp6_eq N a0 a1 q1 a)) (fun a => q1 (St2 a0 a1 a))) a
    exact (body2_0 N (orc T (G N) live [] N 3) (orc T (G N) live [] N 2) q1 a0 a1 a).trans hc) N a)
theorem G_ok (N : Nat) : GamOK Try.prog (G N) := gam_ok (l := []) (trivial)
theorem snd (N : Nat) : Sound Try.prog E 111 (sp N) :=
  Mir.sound T_OK (G_ok N) mixed Try.func111 (c := code) (by kernel_rfl) (by kernel_rfl) (sp N) (Nat.le_of_ble_eq_true (by kernel_rfl)) live [] (by
    rintro ⟨a0, a1, _⟩ r h
    exact ⟨N, 3, ((run N _ a0 a1).trans (congrArg (m0 N a0 a1) (funext fun a => lp2_eq N a0 a1 a))).trans h⟩)
end spec_l12Match
end Mir.Y
