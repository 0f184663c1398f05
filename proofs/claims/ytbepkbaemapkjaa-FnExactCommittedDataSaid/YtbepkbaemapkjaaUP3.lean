/- The models are what the functions do. -/
import Derived.Test.YtbepkbaemapkjaaUP2
namespace Mir.Y
set_option linter.unusedVariables false
set_option maxRecDepth 10000
open Go Go.Proofs Mir
namespace laws_eqMessageS
noncomputable def code : Code := Try.f41.body.getD .skip
abbrev live : Live := [(4, [0, 1, 5])]
noncomputable def G (N : Nat) : Ctx E := gam [(82, [], laws_eqMessage.sp N)]
noncomputable def loop4 : Code := codeAt code [1, 1, 0, 1, 0]
noncomputable def body4 : Code := codeAt loop4 [0]
noncomputable def K4 (N : Nat) (o0 : Orc E R) : KT E R := kAt T (G N) live [] o0 code [1, 1, 0, 1, 0] (kfin T Try.f41 (sp N))
noncomputable def St4 (a0 : List Message) (a1 : List Message) : Int → St E
  | v2 => { ρ := [(0, .c (.at (.ro 113 (.st 113) a0))), (1, .c (.at (.ro 113 (.st 113) a1))), (5, .c (.at (.int .i64 v2)))], H := [], nx := 0, n := 27, pin := [] }
noncomputable def m0 (N : Nat) (a0 : List Message) (a1 : List Message) (lp4 : Int → Option R) : Option R :=
  bif ((a0.length : Int) != (a1.length : Int)) then
    some false
  else
  lp4 (0:Int)
theorem run (N : Nat) (o0 : Orc E R) (a0 : List Message) (a1 : List Message) : runF T (G N) live [] Try.f41 code (sp N) o0 (a0, a1, ()) = m0 N a0 a1 (fun a => o0 loop4 (K4 N o0) (St4 a0 a1 a)) := by kernel_rfl
theorem body4_0 (N : Nat) (o0 : Orc E R) (o1 : Orc E R) (q1 : St E → Option R) (a0 : List Message) (a1 : List Message) (v2 : Int) : runA T (G N) live [] o1 body4 (St4 a0 a1 v2) (kloop [0, 1, 5] q1 (K4 N o0)) = step4 N a0 a1 (fun a => q1 (St4 a0 a1 a)) v2 := by kernel_rfl
theorem lp4_eq (N : Nat) (a0 : List Message) (a1 : List Message) (a : Int) : (orc T (G N) live [] N 2) loop4 (K4 N (orc T (G N) live [] N 2)) (St4 a0 a1 a) = lp4 N a0 a1 a :=
  (orc_loop (b := body4) (live := [0, 1, 5]) (by kernel_rfl)).trans (iter_eq (St4 a0 a1) _ _ (fun q1 a => by
    have hc := congrFun (congrFun (rfl : (step4 N a0 a1) = (step4 N a0 a1)) (fun a => q1 (St4 a0 a1 a))) a
    exact (body4_0 N (orc T (G N) live [] N 2) (orc T (G N) live [] N 1) q1 a0 a1 a).trans hc) N a)
theorem G_ok (N : Nat) : GamOK Try.prog (G N) := gam_ok (l := [(82, [], laws_eqMessage.sp N)]) (⟨laws_eqMessage.snd N, trivial⟩)
theorem snd (N : Nat) : Sound Try.prog E 41 (sp N) :=
  Mir.sound T_OK (G_ok N) mixed Try.func41 (c := code) (by kernel_rfl) (by kernel_rfl) (sp N) (Nat.le_of_ble_eq_true (by kernel_rfl)) live [] (by
    rintro ⟨a0, a1, _⟩ r h
    exact ⟨N, 2, ((run N _ a0 a1).trans (congrArg (m0 N a0 a1) (funext fun a => lp4_eq N a0 a1 a))).trans h⟩)
end laws_eqMessageS
namespace laws_eqLead
noncomputable def code : Code := Try.f83.body.getD .skip
abbrev live : Live := []
noncomputable def G (N : Nat) : Ctx E := gam [(113, [], laws_eqEntryS.sp N)]
noncomputable def m0 (N : Nat) (a0 : Lead) (a1 : Lead) : Option R :=
  bif (a0.Term != a1.Term) then
    some false
  else
  bif (a0.Id != a1.Id) then
    some false
  else
  ob (laws_eqEntryS.m N a0.Log a1.Log) fun y1 =>
  bif (!y1) then
    some false
  else
  some true
theorem run (N : Nat) (o0 : Orc E R) (a0 : Lead) (a1 : Lead) : runF T (G N) live [] Try.f83 code (sp N) o0 (a0, a1, ()) = m0 N a0 a1 := by kernel_rfl
theorem G_ok (N : Nat) : GamOK Try.prog (G N) := gam_ok (l := [(113, [], laws_eqEntryS.sp N)]) (⟨laws_eqEntryS.snd N, trivial⟩)
theorem snd (N : Nat) : Sound Try.prog E 83 (sp N) :=
  Mir.sound T_OK (G_ok N) mixed Try.func83 (c := code) (by kernel_rfl) (by kernel_rfl) (sp N) (Nat.le_of_ble_eq_true (by kernel_rfl)) live [] (by
    rintro ⟨a0, a1, _⟩ r h
    exact ⟨N, 2, ((run N _ a0 a1).trans rfl).trans h⟩)
end laws_eqLead
namespace laws_eqLeadS
noncomputable def code : Code := Try.f42.body.getD .skip
abbrev live : Live := [(4, [0, 1, 5])]
noncomputable def G (N : Nat) : Ctx E := gam [(83, [], laws_eqLead.sp N)]
noncomputable def loop4 : Code := codeAt code [1, 1, 0, 1, 0]
noncomputable def body4 : Code := codeAt loop4 [0]
noncomputable def K4 (N : Nat) (o0 : Orc E R) : KT E R := kAt T (G N) live [] o0 code [1, 1, 0, 1, 0] (kfin T Try.f42 (sp N))
noncomputable def St4 (a0 : List Lead) (a1 : List Lead) : Int → St E
  | v2 => { ρ := [(0, .c (.at (.ro 78 (.st 78) a0))), (1, .c (.at (.ro 78 (.st 78) a1))), (5, .c (.at (.int .i64 v2)))], H := [], nx := 0, n := 27, pin := [] }
noncomputable def m0 (N : Nat) (a0 : List Lead) (a1 : List Lead) (lp4 : Int → Option R) : Option R :=
  bif ((a0.length : Int) != (a1.length : Int)) then
    some false
  else
  lp4 (0:Int)
theorem run (N : Nat) (o0 : Orc E R) (a0 : List Lead) (a1 : List Lead) : runF T (G N) live [] Try.f42 code (sp N) o0 (a0, a1, ()) = m0 N a0 a1 (fun a => o0 loop4 (K4 N o0) (St4 a0 a1 a)) := by kernel_rfl
theorem body4_0 (N : Nat) (o0 : Orc E R) (o1 : Orc E R) (q1 : St E → Option R) (a0 : List Lead) (a1 : List Lead) (v2 : Int) : runA T (G N) live [] o1 body4 (St4 a0 a1 v2) (kloop [0, 1, 5] q1 (K4 N o0)) = step4 N a0 a1 (fun a => q1 (St4 a0 a1 a)) v2 := by kernel_rfl
theorem lp4_eq (N : Nat) (a0 : List Lead) (a1 : List Lead) (a : Int) : (orc T (G N) live [] N 2) loop4 (K4 N (orc T (G N) live [] N 2)) (St4 a0 a1 a) = lp4 N a0 a1 a :=
  (orc_loop (b := body4) (live := [0, 1, 5]) (by kernel_rfl)).trans (iter_eq (St4 a0 a1) _ _ (fun q1 a => by
    have hc := congrFun (congrFun (rfl : (step4 N a0 a1) = (step4 N a0 a1)) (fun a => q1 (St4 a0 a1 a))) a
    exact (body4_0 N (orc T (G N) live [] N 2) (orc T (G N) live [] N 1) q1 a0 a1 a).trans hc) N a)
theorem G_ok (N : Nat) : GamOK Try.prog (G N) := gam_ok (l := [(83, [], laws_eqLead.sp N)]) (⟨laws_eqLead.snd N, trivial⟩)
theorem snd (N : Nat) : Sound Try.prog E 42 (sp N) :=
  Mir.sound T_OK (G_ok N) mixed Try.func42 (c := code) (by kernel_rfl) (by kernel_rfl) (sp N) (Nat.le_of_ble_eq_true (by kernel_rfl)) live [] (by
    rintro ⟨a0, a1, _⟩ r h
    exact ⟨N, 2, ((run N _ a0 a1).trans (congrArg (m0 N a0 a1) (funext fun a => lp4_eq N a0 a1 a))).trans h⟩)
end laws_eqLeadS
namespace laws_eqDone
noncomputable def code : Code := Try.f84.body.getD .skip
abbrev live : Live := []
noncomputable def G (N : Nat) : Ctx E := gam [(115, [], laws_eqEntry.sp N)]
noncomputable def m0 (N : Nat) (a0 : Done) (a1 : Done) : Option R :=
  bif (a0.Node != a1.Node) then
    some false
  else
  bif (a0.Term != a1.Term) then
    some false
  else
  bif (a0.Index != a1.Index) then
    some false
  else
  ob (laws_eqEntry.m N (Entry.mk a0.Entry.Term a0.Entry.Kind a0.Entry.Data) (Entry.mk a1.Entry.Term a1.Entry.Kind a1.Entry.Data)) fun y1 =>
  bif (!y1) then
    some false
  else
  some true
theorem run (N : Nat) (o0 : Orc E R) (a0 : Done) (a1 : Done) : runF T (G N) live [] Try.f84 code (sp N) o0 (a0, a1, ()) = m0 N a0 a1 := by kernel_rfl
theorem G_ok (N : Nat) : GamOK Try.prog (G N) := gam_ok (l := [(115, [], laws_eqEntry.sp N)]) (⟨laws_eqEntry.snd N, trivial⟩)
theorem snd (N : Nat) : Sound Try.prog E 84 (sp N) :=
  Mir.sound T_OK (G_ok N) mixed Try.func84 (c := code) (by kernel_rfl) (by kernel_rfl) (sp N) (Nat.le_of_ble_eq_true (by kernel_rfl)) live [] (by
    rintro ⟨a0, a1, _⟩ r h
    exact ⟨N, 2, ((run N _ a0 a1).trans rfl).trans h⟩)
end laws_eqDone
namespace laws_eqDoneS
noncomputable def code : Code := Try.f43.body.getD .skip
abbrev live : Live := [(4, [0, 1, 5])]
noncomputable def G (N : Nat) : Ctx E := gam [(84, [], laws_eqDone.sp N)]
noncomputable def loop4 : Code := codeAt code [1, 1, 0, 1, 0]
noncomputable def body4 : Code := codeAt loop4 [0]
noncomputable def K4 (N : Nat) (o0 : Orc E R) : KT E R := kAt T (G N) live [] o0 code [1, 1, 0, 1, 0] (kfin T Try.f43 (sp N))
noncomputable def St4 (a0 : List Done) (a1 : List Done) : Int → St E
  | v2 => { ρ := [(0, .c (.at (.ro 66 (.st 66) a0))), (1, .c (.at (.ro 66 (.st 66) a1))), (5, .c (.at (.int .i64 v2)))], H := [], nx := 0, n := 27, pin := [] }
noncomputable def m0 (N : Nat) (a0 : List Done) (a1 : List Done) (lp4 : Int → Option R) : Option R :=
  bif ((a0.length : Int) != (a1.length : Int)) then
    some false
  else
  lp4 (0:Int)
theorem run (N : Nat) (o0 : Orc E R) (a0 : List Done) (a1 : List Done) : runF T (G N) live [] Try.f43 code (sp N) o0 (a0, a1, ()) = m0 N a0 a1 (fun a => o0 loop4 (K4 N o0) (St4 a0 a1 a)) := by kernel_rfl
theorem body4_0 (N : Nat) (o0 : Orc E R) (o1 : Orc E R) (q1 : St E → Option R) (a0 : List Done) (a1 : List Done) (v2 : Int) : runA T (G N) live [] o1 body4 (St4 a0 a1 v2) (kloop [0, 1, 5] q1 (K4 N o0)) = step4 N a0 a1 (fun a => q1 (St4 a0 a1 a)) v2 := by kernel_rfl
theorem lp4_eq (N : Nat) (a0 : List Done) (a1 : List Done) (a : Int) : (orc T (G N) live [] N 2) loop4 (K4 N (orc T (G N) live [] N 2)) (St4 a0 a1 a) = lp4 N a0 a1 a :=
  (orc_loop (b := body4) (live := [0, 1, 5]) (by kernel_rfl)).trans (iter_eq (St4 a0 a1) _ _ (fun q1 a => by
    have hc := congrFun (congrFun (rfl : (step4 N a0 a1) = (step4 N a0 a1)) (fun a => q1 (St4 a0 a1 a))) a
    exact (body4_0 N (orc T (G N) live [] N 2) (orc T (G N) live [] N 1) q1 a0 a1 a).trans hc) N a)
theorem G_ok (N : Nat) : GamOK Try.prog (G N) := gam_ok (l := [(84, [], laws_eqDone.sp N)]) (⟨laws_eqDone.snd N, trivial⟩)
theorem snd (N : Nat) : Sound Try.prog E 43 (sp N) :=
  Mir.sound T_OK (G_ok N) mixed Try.func43 (c := code) (by kernel_rfl) (by kernel_rfl) (sp N) (Nat.le_of_ble_eq_true (by kernel_rfl)) live [] (by
    rintro ⟨a0, a1, _⟩ r h
    exact ⟨N, 2, ((run N _ a0 a1).trans (congrArg (m0 N a0 a1) (funext fun a => lp4_eq N a0 a1 a))).trans h⟩)
end laws_eqDoneS
namespace laws_eqGroup
noncomputable def code : Code := Try.f12.body.getD .skip
abbrev live : Live := []
noncomputable def G (N : Nat) : Ctx E := gam [(40, [], laws_eqNodeS.sp N), (41, [], laws_eqMessageS.sp N), (42, [], laws_eqLeadS.sp N), (43, [], laws_eqDoneS.sp N)]
noncomputable def m0 (N : Nat) (a0 : Group) (a1 : Group) : Option R :=
  ob (laws_eqNodeS.m N a0.Nodes a1.Nodes) fun y1 =>
  bif (!y1) then
    some false
  else
  ob (laws_eqMessageS.m N a0.Wire a1.Wire) fun y2 =>
  bif (!y2) then
    some false
  else
  ob (laws_eqLeadS.m N a0.Leads a1.Leads) fun y3 =>
  bif (!y3) then
    some false
  else
  ob (laws_eqDoneS.m N a0.Dones a1.Dones) fun y4 =>
  bif (!y4) then
    some false
  else
  some true
theorem run (N : Nat) (o0 : Orc E R) (a0 : Group) (a1 : Group) : runF T (G N) live [] Try.f12 code (sp N) o0 (a0, a1, ()) = m0 N a0 a1 := by kernel_rfl
theorem G_ok (N : Nat) : GamOK Try.prog (G N) := gam_ok (l := [(40, [], laws_eqNodeS.sp N), (41, [], laws_eqMessageS.sp N), (42, [], laws_eqLeadS.sp N), (43, [], laws_eqDoneS.sp N)]) (⟨laws_eqNodeS.snd N, laws_eqMessageS.snd N, laws_eqLeadS.snd N, laws_eqDoneS.snd N, trivial⟩)
theorem snd (N : Nat) : Sound Try.prog E 12 (sp N) :=
  Mir.sound T_OK (G_ok N) mixed Try.func12 (c := code) (by kernel_rfl) (by kernel_rfl) (sp N) (Nat.le_of_ble_eq_true (by kernel_rfl)) live [] (by
    rintro ⟨a0, a1, _⟩ r h
    exact ⟨N, 2, ((run N _ a0 a1).trans rfl).trans h⟩)
end laws_eqGroup
namespace laws_markText
noncomputable def code : Code := Try.f53.body.getD .skip
abbrev live : Live := [(4, [0, 3])]
noncomputable def G (N : Nat) : Ctx E := gam []
noncomputable def loop4 : Code := codeAt code [1, 1, 1, 0, 0]
noncomputable def body4 : Code := codeAt loop4 [0]
noncomputable def K4 (N : Nat) (o0 : Orc E R) : KT E R := kAt T (G N) live [] o0 code [1, 1, 1, 0, 0] (kfin T Try.f53 (sp N))
noncomputable def St4 (a0 : Int) : (Int × ByteArray) → St E
  | (v0, v1) => { ρ := [(0, .c (.at (.int .i64 v0))), (3, .c (.at (.str v1)))], H := [], nx := 0, n := 20, pin := [] }
noncomputable def m0 (N : Nat) (a0 : Int) (lp4 : Int × ByteArray → Option R) : Option R :=
  bif (decide (a0 ≤ (0:Int))) then
    some (⟨#[109, 48]⟩ : ByteArray)
  else
  lp4 (a0, ByteArray.empty)
theorem run (N : Nat) (o0 : Orc E R) (a0 : Int) : runF T (G N) live [] Try.f53 code (sp N) o0 (a0, ()) = m0 N a0 (fun a => o0 loop4 (K4 N o0) (St4 a0 a)) := by kernel_rfl
theorem body4_0 (N : Nat) (o0 : Orc E R) (o1 : Orc E R) (q1 : St E → Option R) (a0 : Int) (v0 : Int) (v1 : ByteArray) : runA T (G N) live [] o1 body4 (St4 a0 (v0, v1)) (kloop [0, 3] q1 (K4 N o0)) = step4 N a0 (fun a => q1 (St4 a0 a)) (v0, v1) := by kernel_rfl
theorem lp4_eq (N : Nat) (a0 : Int) (a : Int × ByteArray) : (orc T (G N) live [] N 2) loop4 (K4 N (orc T (G N) live [] N 2)) (St4 a0 a) = lp4 N a0 a :=
  (orc_loop (b := body4) (live := [0, 3]) (by kernel_rfl)).trans (iter_eq (St4 a0) _ _ (fun q1 a => by
    have hc := congrFun (congrFun (rfl : (step4 N a0) = (step4 N a0)) (fun a => q1 (St4 a0 a))) a
    obtain ⟨u0, u1⟩ := a
    exact (body4_0 N (orc T (G N) live [] N 2) (orc T (G N) live [] N 1) q1 a0 u0 u1).trans hc) N a)
theorem G_ok (N : Nat) : GamOK Try.prog (G N) := gam_ok (l := []) (trivial)
theorem snd (N : Nat) : Sound Try.prog E 53 (sp N) :=
  Mir.sound T_OK (G_ok N) mixed Try.func53 (c := code) (by kernel_rfl) (by kernel_rfl) (sp N) (Nat.le_of_ble_eq_true (by kernel_rfl)) live [] (by
    rintro ⟨a0, _⟩ r h
    exact ⟨N, 2, ((run N _ a0).trans (congrArg (m0 N a0) (funext fun a => lp4_eq N a0 a))).trans h⟩)
end laws_markText
namespace laws_markEntryS
noncomputable def code : Code := Try.f85.body.getD .skip
abbrev live : Live := [(2, [0, 1, 5])]
noncomputable def G (N : Nat) : Ctx E := gam [(53, [], laws_markText.sp N)]
noncomputable def loop2 : Code := codeAt code [1, 0, 1, 0]
noncomputable def body2 : Code := codeAt loop2 [0]
noncomputable def K2 (N : Nat) (o0 : Orc E R) : KT E R := kAt T (G N) live [] o0 code [1, 0, 1, 0] (kfin T Try.f85 (sp N))
noncomputable def St2 (a0 : List Entry) (a1 : Int) : (Int × Int × (List Entry)) → St E
  | (v0, v1, v2) => { ρ := [(0, .c (.at (.own 0))), (1, .c (.at (.int .i64 v0))), (5, .c (.at (.int .i64 v1)))], H := [(0, .row 58 (.st 58) v2 false)], nx := 1, n := 35, pin := [0] }
noncomputable def m0 (N : Nat) (a0 : List Entry) (a1 : Int) (lp2 : Int × Int × (List Entry) → Option R) : Option R :=
  lp2 (a1, (0:Int), a0)
theorem run (N : Nat) (o0 : Orc E R) (a0 : List Entry) (a1 : Int) : runF T (G N) live [] Try.f85 code (sp N) o0 (a0, a1, ()) = m0 N a0 a1 (fun a => o0 loop2 (K2 N o0) (St2 a0 a1 a)) := by kernel_rfl
theorem body2_0 (N : Nat) (o0 : Orc E R) (o1 : Orc E R) (q1 : St E → Option R) (a0 : List Entry) (a1 : Int) (v0 : Int) (v1 : Int) (v2 : List Entry) : runA T (G N) live [] o1 body2 (St2 a0 a1 (v0, v1, v2)) (kloop [0, 1, 5] q1 (K2 N o0)) = step2 N a0 a1 (fun a => q1 (St2 a0 a1 a)) (v0, v1, v2) := by kernel_rfl
theorem lp2_eq (N : Nat) (a0 : List Entry) (a1 : Int) (a : Int × Int × (List Entry)) : (orc T (G N) live [] N 2) loop2 (K2 N (orc T (G N) live [] N 2)) (St2 a0 a1 a) = lp2 N a0 a1 a :=
  (orc_loop (b := body2) (live := [0, 1, 5]) (by kernel_rfl)).trans (iter_eq (St2 a0 a1) _ _ (fun q1 a => by
    have hc := congrFun (congrFun (rfl : (step2 N a0 a1) = (step2 N a0 a1)) (fun a => q1 (St2 a0 a1 a))) a
    obtain ⟨u0, u1, u2⟩ := a
    exact (body2_0 N (orc T (G N) live [] N 2) (orc T (G N) live [] N 1) q1 a0 a1 u0 u1 u2).trans hc) N a)
theorem G_ok (N : Nat) : GamOK Try.prog (G N) := gam_ok (l := [(53, [], laws_markText.sp N)]) (⟨laws_markText.snd N, trivial⟩)
theorem snd (N : Nat) : Sound Try.prog E 85 (sp N) :=
  Mir.sound T_OK (G_ok N) mixed Try.func85 (c := code) (by kernel_rfl) (by kernel_rfl) (sp N) (Nat.le_of_ble_eq_true (by kernel_rfl)) live [] (by
    rintro ⟨a0, a1, _⟩ r h
    exact ⟨N, 2, ((run N _ a0 a1).trans (congrArg (m0 N a0 a1) (funext fun a => lp2_eq N a0 a1 a))).trans h⟩)
end laws_markEntryS
namespace laws_markIntS
noncomputable def code : Code := Try.f86.body.getD .skip
abbrev live : Live := [(2, [0, 1, 5])]
noncomputable def G (N : Nat) : Ctx E := gam []
noncomputable def loop2 : Code := codeAt code [1, 0, 1, 0]
noncomputable def body2 : Code := codeAt loop2 [0]
noncomputable def K2 (N : Nat) (o0 : Orc E R) : KT E R := kAt T (G N) live [] o0 code [1, 0, 1, 0] (kfin T Try.f86 (sp N))
noncomputable def St2 (a0 : List Int) (a1 : Int) : (Int × Int × (List Int)) → St E
  | (v0, v1, v2) => { ρ := [(0, .c (.at (.own 0))), (1, .c (.at (.int .i64 v0))), (5, .c (.at (.int .i64 v1)))], H := [(0, .row 3 (.int .i64) v2 false)], nx := 1, n := 19, pin := [0] }
noncomputable def m0 (N : Nat) (a0 : List Int) (a1 : Int) (lp2 : Int × Int × (List Int) → Option R) : Option R :=
  lp2 (a1, (0:Int), a0)
theorem run (N : Nat) (o0 : Orc E R) (a0 : List Int) (a1 : Int) : runF T (G N) live [] Try.f86 code (sp N) o0 (a0, a1, ()) = m0 N a0 a1 (fun a => o0 loop2 (K2 N o0) (St2 a0 a1 a)) := by kernel_rfl
theorem body2_0 (N : Nat) (o0 : Orc E R) (o1 : Orc E R) (q1 : St E → Option R) (a0 : List Int) (a1 : Int) (v0 : Int) (v1 : Int) (v2 : List Int) : runA T (G N) live [] o1 body2 (St2 a0 a1 (v0, v1, v2)) (kloop [0, 1, 5] q1 (K2 N o0)) = step2 N a0 a1 (fun a => q1 (St2 a0 a1 a)) (v0, v1, v2) := by kernel_rfl
theorem lp2_eq (N : Nat) (a0 : List Int) (a1 : Int) (a : Int × Int × (List Int)) : (orc T (G N) live [] N 2) loop2 (K2 N (orc T (G N) live [] N 2)) (St2 a0 a1 a) = lp2 N a0 a1 a :=
  (orc_loop (b := body2) (live := [0, 1, 5]) (by kernel_rfl)).trans (iter_eq (St2 a0 a1) _ _ (fun q1 a => by
    have hc := congrFun (congrFun (rfl : (step2 N a0 a1) = (step2 N a0 a1)) (fun a => q1 (St2 a0 a1 a))) a
    obtain ⟨u0, u1, u2⟩ := a
    exact (body2_0 N (orc T (G N) live [] N 2) (orc T (G N) live [] N 1) q1 a0 a1 u0 u1 u2).trans hc) N a)
theorem G_ok (N : Nat) : GamOK Try.prog (G N) := gam_ok (l := []) (trivial)
theorem snd (N : Nat) : Sound Try.prog E 86 (sp N) :=
  Mir.sound T_OK (G_ok N) mixed Try.func86 (c := code) (by kernel_rfl) (by kernel_rfl) (sp N) (Nat.le_of_ble_eq_true (by kernel_rfl)) live [] (by
    rintro ⟨a0, a1, _⟩ r h
    exact ⟨N, 2, ((run N _ a0 a1).trans (congrArg (m0 N a0 a1) (funext fun a => lp2_eq N a0 a1 a))).trans h⟩)
end laws_markIntS
namespace laws_markNodeS
noncomputable def code : Code := Try.f49.body.getD .skip
abbrev live : Live := [(2, [0, 1, 5])]
noncomputable def G (N : Nat) : Ctx E := gam [(85, [], laws_markEntryS.sp N), (86, [], laws_markIntS.sp N)]
noncomputable def loop2 : Code := codeAt code [1, 0, 1, 0]
noncomputable def body2 : Code := codeAt loop2 [0]
noncomputable def K2 (N : Nat) (o0 : Orc E R) : KT E R := kAt TD (G N) live [] o0 code [1, 0, 1, 0] (kfin TD Try.f49 (sp N))
noncomputable def St2 (a0 : List Node) (a1 : Int) : (Int × Int × (List Node)) → St E
  | (v0, v1, v2) => { ρ := [(0, .c (.at (.own 0))), (1, .c (.at (.int .i64 v0))), (5, .c (.at (.int .i64 v1)))], H := [(0, .drow 50 (.st 50) v2 1), (1, .hdr)], nx := 2, n := 106, pin := [0] }
noncomputable def m0 (N : Nat) (a0 : List Node) (a1 : Int) (lp2 : Int × Int × (List Node) → Option R) : Option R :=
  lp2 (a1, (0:Int), a0)
theorem run (N : Nat) (o0 : Orc E R) (a0 : List Node) (a1 : Int) : runF TD (G N) live [] Try.f49 code (sp N) o0 (a0, a1, ()) = m0 N a0 a1 (fun a => o0 loop2 (K2 N o0) (St2 a0 a1 a)) := by kernel_rfl
theorem body2_0 (N : Nat) (o0 : Orc E R) (o1 : Orc E R) (q1 : St E → Option R) (a0 : List Node) (a1 : Int) (v0 : Int) (v1 : Int) (v2 : List Node) : runA TD (G N) live [] o1 body2 (St2 a0 a1 (v0, v1, v2)) (kloop [0, 1, 5] q1 (K2 N o0)) = step2 N a0 a1 (fun a => q1 (St2 a0 a1 a)) (v0, v1, v2) := by kernel_rfl
theorem lp2_eq (N : Nat) (a0 : List Node) (a1 : Int) (a : Int × Int × (List Node)) : (orc TD (G N) live [] N 2) loop2 (K2 N (orc TD (G N) live [] N 2)) (St2 a0 a1 a) = lp2 N a0 a1 a :=
  (orc_loop (b := body2) (live := [0, 1, 5]) (by kernel_rfl)).trans (iter_eq (St2 a0 a1) _ _ (fun q1 a => by
    have hc := congrFun (congrFun (rfl : (step2 N a0 a1) = (step2 N a0 a1)) (fun a => q1 (St2 a0 a1 a))) a
    obtain ⟨u0, u1, u2⟩ := a
    exact (body2_0 N (orc TD (G N) live [] N 2) (orc TD (G N) live [] N 1) q1 a0 a1 u0 u1 u2).trans hc) N a)
theorem G_ok (N : Nat) : GamOK Try.prog (G N) := gam_ok (l := [(85, [], laws_markEntryS.sp N), (86, [], laws_markIntS.sp N)]) (⟨laws_markEntryS.snd N, laws_markIntS.snd N, trivial⟩)
theorem snd (N : Nat) : Sound Try.prog E 49 (sp N) :=
  Mir.sound TD_OK (G_ok N) mixed Try.func49 (c := code) (by kernel_rfl) (by kernel_rfl) (sp N) (Nat.le_of_ble_eq_true (by kernel_rfl)) live [] (by
    rintro ⟨a0, a1, _⟩ r h
    exact ⟨N, 2, ((run N _ a0 a1).trans (congrArg (m0 N a0 a1) (funext fun a => lp2_eq N a0 a1 a))).trans h⟩)
end laws_markNodeS
namespace laws_markMessageS
noncomputable def code : Code := Try.f50.body.getD .skip
abbrev live : Live := [(2, [0, 1, 5])]
noncomputable def G (N : Nat) : Ctx E := gam [(85, [], laws_markEntryS.sp N)]
noncomputable def loop2 : Code := codeAt code [1, 0, 1, 0]
noncomputable def body2 : Code := codeAt loop2 [0]
noncomputable def K2 (N : Nat) (o0 : Orc E R) : KT E R := kAt TD (G N) live [] o0 code [1, 0, 1, 0] (kfin TD Try.f50 (sp N))
noncomputable def St2 (a0 : List Message) (a1 : Int) : (Int × Int × (List Message)) → St E
  | (v0, v1, v2) => { ρ := [(0, .c (.at (.own 0))), (1, .c (.at (.int .i64 v0))), (5, .c (.at (.int .i64 v1)))], H := [(0, .drow 113 (.st 113) v2 1), (1, .hdr)], nx := 2, n := 78, pin := [0] }
noncomputable def m0 (N : Nat) (a0 : List Message) (a1 : Int) (lp2 : Int × Int × (List Message) → Option R) : Option R :=
  lp2 (a1, (0:Int), a0)
theorem run (N : Nat) (o0 : Orc E R) (a0 : List Message) (a1 : Int) : runF TD (G N) live [] Try.f50 code (sp N) o0 (a0, a1, ()) = m0 N a0 a1 (fun a => o0 loop2 (K2 N o0) (St2 a0 a1 a)) := by kernel_rfl
theorem body2_0 (N : Nat) (o0 : Orc E R) (o1 : Orc E R) (q1 : St E → Option R) (a0 : List Message) (a1 : Int) (v0 : Int) (v1 : Int) (v2 : List Message) : runA TD (G N) live [] o1 body2 (St2 a0 a1 (v0, v1, v2)) (kloop [0, 1, 5] q1 (K2 N o0)) = step2 N a0 a1 (fun a => q1 (St2 a0 a1 a)) (v0, v1, v2) := by kernel_rfl
theorem lp2_eq (N : Nat) (a0 : List Message) (a1 : Int) (a : Int × Int × (List Message)) : (orc TD (G N) live [] N 2) loop2 (K2 N (orc TD (G N) live [] N 2)) (St2 a0 a1 a) = lp2 N a0 a1 a :=
  (orc_loop (b := body2) (live := [0, 1, 5]) (by kernel_rfl)).trans (iter_eq (St2 a0 a1) _ _ (fun q1 a => by
    have hc := congrFun (congrFun (rfl : (step2 N a0 a1) = (step2 N a0 a1)) (fun a => q1 (St2 a0 a1 a))) a
    obtain ⟨u0, u1, u2⟩ := a
    exact (body2_0 N (orc TD (G N) live [] N 2) (orc TD (G N) live [] N 1) q1 a0 a1 u0 u1 u2).trans hc) N a)
theorem G_ok (N : Nat) : GamOK Try.prog (G N) := gam_ok (l := [(85, [], laws_markEntryS.sp N)]) (⟨laws_markEntryS.snd N, trivial⟩)
theorem snd (N : Nat) : Sound Try.prog E 50 (sp N) :=
  Mir.sound TD_OK (G_ok N) mixed Try.func50 (c := code) (by kernel_rfl) (by kernel_rfl) (sp N) (Nat.le_of_ble_eq_true (by kernel_rfl)) live [] (by
    rintro ⟨a0, a1, _⟩ r h
    exact ⟨N, 2, ((run N _ a0 a1).trans (congrArg (m0 N a0 a1) (funext fun a => lp2_eq N a0 a1 a))).trans h⟩)
end laws_markMessageS
namespace laws_markLeadS
noncomputable def code : Code := Try.f51.body.getD .skip
abbrev live : Live := [(2, [0, 1, 5])]
noncomputable def G (N : Nat) : Ctx E := gam [(85, [], laws_markEntryS.sp N)]
noncomputable def loop2 : Code := codeAt code [1, 0, 1, 0]
noncomputable def body2 : Code := codeAt loop2 [0]
noncomputable def K2 (N : Nat) (o0 : Orc E R) : KT E R := kAt TD (G N) live [] o0 code [1, 0, 1, 0] (kfin TD Try.f51 (sp N))
noncomputable def St2 (a0 : List Lead) (a1 : Int) : (Int × Int × (List Lead)) → St E
  | (v0, v1, v2) => { ρ := [(0, .c (.at (.own 0))), (1, .c (.at (.int .i64 v0))), (5, .c (.at (.int .i64 v1)))], H := [(0, .drow 78 (.st 78) v2 1), (1, .hdr)], nx := 2, n := 34, pin := [0] }
noncomputable def m0 (N : Nat) (a0 : List Lead) (a1 : Int) (lp2 : Int × Int × (List Lead) → Option R) : Option R :=
  lp2 (a1, (0:Int), a0)
theorem run (N : Nat) (o0 : Orc E R) (a0 : List Lead) (a1 : Int) : runF TD (G N) live [] Try.f51 code (sp N) o0 (a0, a1, ()) = m0 N a0 a1 (fun a => o0 loop2 (K2 N o0) (St2 a0 a1 a)) := by kernel_rfl
theorem body2_0 (N : Nat) (o0 : Orc E R) (o1 : Orc E R) (q1 : St E → Option R) (a0 : List Lead) (a1 : Int) (v0 : Int) (v1 : Int) (v2 : List Lead) : runA TD (G N) live [] o1 body2 (St2 a0 a1 (v0, v1, v2)) (kloop [0, 1, 5] q1 (K2 N o0)) = step2 N a0 a1 (fun a => q1 (St2 a0 a1 a)) (v0, v1, v2) := by kernel_rfl
theorem lp2_eq (N : Nat) (a0 : List Lead) (a1 : Int) (a : Int × Int × (List Lead)) : (orc TD (G N) live [] N 2) loop2 (K2 N (orc TD (G N) live [] N 2)) (St2 a0 a1 a) = lp2 N a0 a1 a :=
  (orc_loop (b := body2) (live := [0, 1, 5]) (by kernel_rfl)).trans (iter_eq (St2 a0 a1) _ _ (fun q1 a => by
    have hc := congrFun (congrFun (rfl : (step2 N a0 a1) = (step2 N a0 a1)) (fun a => q1 (St2 a0 a1 a))) a
    obtain ⟨u0, u1, u2⟩ := a
    exact (body2_0 N (orc TD (G N) live [] N 2) (orc TD (G N) live [] N 1) q1 a0 a1 u0 u1 u2).trans hc) N a)
theorem G_ok (N : Nat) : GamOK Try.prog (G N) := gam_ok (l := [(85, [], laws_markEntryS.sp N)]) (⟨laws_markEntryS.snd N, trivial⟩)
theorem snd (N : Nat) : Sound Try.prog E 51 (sp N) :=
  Mir.sound TD_OK (G_ok N) mixed Try.func51 (c := code) (by kernel_rfl) (by kernel_rfl) (sp N) (Nat.le_of_ble_eq_true (by kernel_rfl)) live [] (by
    rintro ⟨a0, a1, _⟩ r h
    exact ⟨N, 2, ((run N _ a0 a1).trans (congrArg (m0 N a0 a1) (funext fun a => lp2_eq N a0 a1 a))).trans h⟩)
end laws_markLeadS
namespace laws_markDoneS
noncomputable def code : Code := Try.f52.body.getD .skip
abbrev live : Live := [(2, [0, 1, 5])]
noncomputable def G (N : Nat) : Ctx E := gam [(53, [], laws_markText.sp N)]
noncomputable def loop2 : Code := codeAt code [1, 0, 1, 0]
noncomputable def body2 : Code := codeAt loop2 [0]
noncomputable def K2 (N : Nat) (o0 : Orc E R) : KT E R := kAt T (G N) live [] o0 code [1, 0, 1, 0] (kfin T Try.f52 (sp N))
noncomputable def St2 (a0 : List Done) (a1 : Int) : (Int × Int × (List Done)) → St E
  | (v0, v1, v2) => { ρ := [(0, .c (.at (.own 0))), (1, .c (.at (.int .i64 v0))), (5, .c (.at (.int .i64 v1)))], H := [(0, .row 66 (.st 66) v2 false)], nx := 1, n := 59, pin := [0] }
noncomputable def m0 (N : Nat) (a0 : List Done) (a1 : Int) (lp2 : Int × Int × (List Done) → Option R) : Option R :=
  lp2 (a1, (0:Int), a0)
theorem run (N : Nat) (o0 : Orc E R) (a0 : List Done) (a1 : Int) : runF T (G N) live [] Try.f52 code (sp N) o0 (a0, a1, ()) = m0 N a0 a1 (fun a => o0 loop2 (K2 N o0) (St2 a0 a1 a)) := by kernel_rfl
theorem body2_0 (N : Nat) (o0 : Orc E R) (o1 : Orc E R) (q1 : St E → Option R) (a0 : List Done) (a1 : Int) (v0 : Int) (v1 : Int) (v2 : List Done) : runA T (G N) live [] o1 body2 (St2 a0 a1 (v0, v1, v2)) (kloop [0, 1, 5] q1 (K2 N o0)) = step2 N a0 a1 (fun a => q1 (St2 a0 a1 a)) (v0, v1, v2) := by kernel_rfl
theorem lp2_eq (N : Nat) (a0 : List Done) (a1 : Int) (a : Int × Int × (List Done)) : (orc T (G N) live [] N 2) loop2 (K2 N (orc T (G N) live [] N 2)) (St2 a0 a1 a) = lp2 N a0 a1 a :=
  (orc_loop (b := body2) (live := [0, 1, 5]) (by kernel_rfl)).trans (iter_eq (St2 a0 a1) _ _ (fun q1 a => by
    have hc := congrFun (congrFun (rfl : (step2 N a0 a1) = (step2 N a0 a1)) (fun a => q1 (St2 a0 a1 a))) a
    obtain ⟨u0, u1, u2⟩ := a
    exact (body2_0 N (orc T (G N) live [] N 2) (orc T (G N) live [] N 1) q1 a0 a1 u0 u1 u2).trans hc) N a)
theorem G_ok (N : Nat) : GamOK Try.prog (G N) := gam_ok (l := [(53, [], laws_markText.sp N)]) (⟨laws_markText.snd N, trivial⟩)
theorem snd (N : Nat) : Sound Try.prog E 52 (sp N) :=
  Mir.sound T_OK (G_ok N) mixed Try.func52 (c := code) (by kernel_rfl) (by kernel_rfl) (sp N) (Nat.le_of_ble_eq_true (by kernel_rfl)) live [] (by
    rintro ⟨a0, a1, _⟩ r h
    exact ⟨N, 2, ((run N _ a0 a1).trans (congrArg (m0 N a0 a1) (funext fun a => lp2_eq N a0 a1 a))).trans h⟩)
end laws_markDoneS
namespace laws_markGroup
noncomputable def code : Code := Try.f20.body.getD .skip
abbrev live : Live := []
noncomputable def G (N : Nat) : Ctx E := gam [(49, [], laws_markNodeS.sp N), (50, [], laws_markMessageS.sp N), (51, [], laws_markLeadS.sp N), (52, [], laws_markDoneS.sp N)]
noncomputable def m0 (N : Nat) (a0 : Group) (a1 : Int) : Option R :=
  ob (laws_markNodeS.m N a0.Nodes a1) fun y1 =>
  ob (laws_markMessageS.m N a0.Wire y1.1) fun y2 =>
  ob (laws_markLeadS.m N a0.Leads y2.1) fun y3 =>
  ob (laws_markDoneS.m N a0.Dones y3.1) fun y4 =>
  some (y4.1, (Group.mk y1.2 y2.2 y3.2 y4.2))
theorem run (N : Nat) (o0 : Orc E R) (a0 : Group) (a1 : Int) : runF TD (G N) live [] Try.f20 code (sp N) o0 (a0, a1, ()) = m0 N a0 a1 := by kernel_rfl
theorem G_ok (N : Nat) : GamOK Try.prog (G N) := gam_ok (l := [(49, [], laws_markNodeS.sp N), (50, [], laws_markMessageS.sp N), (51, [], laws_markLeadS.sp N), (52, [], laws_markDoneS.sp N)]) (⟨laws_markNodeS.snd N, laws_markMessageS.snd N, laws_markLeadS.snd N, laws_markDoneS.snd N, trivial⟩)
theorem snd (N : Nat) : Sound Try.prog E 20 (sp N) :=
  Mir.sound TD_OK (G_ok N) mixed Try.func20 (c := code) (by kernel_rfl) (by kernel_rfl) (sp N) (Nat.le_of_ble_eq_true (by kernel_rfl)) live [] (by
    rintro ⟨a0, a1, _⟩ r h
    exact ⟨N, 2, ((run N _ a0 a1).trans rfl).trans h⟩)
end laws_markGroup
namespace laws_markStringS
noncomputable def code : Code := Try.f21.body.getD .skip
abbrev live : Live := [(2, [0, 1, 5])]
noncomputable def G (N : Nat) : Ctx E := gam [(53, [], laws_markText.sp N)]
noncomputable def loop2 : Code := codeAt code [1, 0, 1, 0]
noncomputable def body2 : Code := codeAt loop2 [0]
noncomputable def K2 (N : Nat) (o0 : Orc E R) : KT E R := kAt T (G N) live [] o0 code [1, 0, 1, 0] (kfin T Try.f21 (sp N))
noncomputable def St2 (a0 : List ByteArray) (a1 : Int) : (Int × Int × (List ByteArray)) → St E
  | (v0, v1, v2) => { ρ := [(0, .c (.at (.own 0))), (1, .c (.at (.int .i64 v0))), (5, .c (.at (.int .i64 v1)))], H := [(0, .row 9 .str v2 false)], nx := 1, n := 20, pin := [0] }
noncomputable def m0 (N : Nat) (a0 : List ByteArray) (a1 : Int) (lp2 : Int × Int × (List ByteArray) → Option R) : Option R :=
  lp2 (a1, (0:Int), a0)
theorem run (N : Nat) (o0 : Orc E R) (a0 : List ByteArray) (a1 : Int) : runF T (G N) live [] Try.f21 code (sp N) o0 (a0, a1, ()) = m0 N a0 a1 (fun a => o0 loop2 (K2 N o0) (St2 a0 a1 a)) := by kernel_rfl
theorem body2_0 (N : Nat) (o0 : Orc E R) (o1 : Orc E R) (q1 : St E → Option R) (a0 : List ByteArray) (a1 : Int) (v0 : Int) (v1 : Int) (v2 : List ByteArray) : runA T (G N) live [] o1 body2 (St2 a0 a1 (v0, v1, v2)) (kloop [0, 1, 5] q1 (K2 N o0)) = step2 N a0 a1 (fun a => q1 (St2 a0 a1 a)) (v0, v1, v2) := by kernel_rfl
theorem lp2_eq (N : Nat) (a0 : List ByteArray) (a1 : Int) (a : Int × Int × (List ByteArray)) : (orc T (G N) live [] N 2) loop2 (K2 N (orc T (G N) live [] N 2)) (St2 a0 a1 a) = lp2 N a0 a1 a :=
  (orc_loop (b := body2) (live := [0, 1, 5]) (by kernel_rfl)).trans (iter_eq (St2 a0 a1) _ _ (fun q1 a => by
    have hc := congrFun (congrFun (rfl : (step2 N a0 a1) = (step2 N a0 a1)) (fun a => q1 (St2 a0 a1 a))) a
    obtain ⟨u0, u1, u2⟩ := a
    exact (body2_0 N (orc T (G N) live [] N 2) (orc T (G N) live [] N 1) q1 a0 a1 u0 u1 u2).trans hc) N a)
theorem G_ok (N : Nat) : GamOK Try.prog (G N) := gam_ok (l := [(53, [], laws_markText.sp N)]) (⟨laws_markText.snd N, trivial⟩)
theorem snd (N : Nat) : Sound Try.prog E 21 (sp N) :=
  Mir.sound T_OK (G_ok N) mixed Try.func21 (c := code) (by kernel_rfl) (by kernel_rfl) (sp N) (Nat.le_of_ble_eq_true (by kernel_rfl)) live [] (by
    rintro ⟨a0, a1, _⟩ r h
    exact ⟨N, 2, ((run N _ a0 a1).trans (congrArg (m0 N a0 a1) (funext fun a => lp2_eq N a0 a1 a))).trans h⟩)
end laws_markStringS
namespace laws_heldStringS
noncomputable def code : Code := Try.f22.body.getD .skip
abbrev live : Live := [(2, [0, 1, 5])]
noncomputable def G (N : Nat) : Ctx E := gam [(53, [], laws_markText.sp N)]
noncomputable def loop2 : Code := codeAt code [1, 0, 1, 0]
noncomputable def body2 : Code := codeAt loop2 [0]
noncomputable def K2 (N : Nat) (o0 : Orc E R) : KT E R := kAt T (G N) live [] o0 code [1, 0, 1, 0] (kfin T Try.f22 (sp N))
noncomputable def St2 (a0 : List ByteArray) (a1 : Int) : (Int × Int) → St E
  | (v1, v2) => { ρ := [(0, .c (.at (.ro 9 .str a0))), (1, .c (.at (.int .i64 v1))), (5, .c (.at (.int .i64 v2)))], H := [], nx := 0, n := 22, pin := [] }
noncomputable def m0 (N : Nat) (a0 : List ByteArray) (a1 : Int) (lp2 : Int × Int → Option R) : Option R :=
  lp2 (a1, (0:Int))
theorem run (N : Nat) (o0 : Orc E R) (a0 : List ByteArray) (a1 : Int) : runF T (G N) live [] Try.f22 code (sp N) o0 (a0, a1, ()) = m0 N a0 a1 (fun a => o0 loop2 (K2 N o0) (St2 a0 a1 a)) := by kernel_rfl
theorem body2_0 (N : Nat) (o0 : Orc E R) (o1 : Orc E R) (q1 : St E → Option R) (a0 : List ByteArray) (a1 : Int) (v1 : Int) (v2 : Int) : runA T (G N) live [] o1 body2 (St2 a0 a1 (v1, v2)) (kloop [0, 1, 5] q1 (K2 N o0)) = step2 N a0 a1 (fun a => q1 (St2 a0 a1 a)) (v1, v2) := by kernel_rfl
theorem lp2_eq (N : Nat) (a0 : List ByteArray) (a1 : Int) (a : Int × Int) : (orc T (G N) live [] N 2) loop2 (K2 N (orc T (G N) live [] N 2)) (St2 a0 a1 a) = lp2 N a0 a1 a :=
  (orc_loop (b := body2) (live := [0, 1, 5]) (by kernel_rfl)).trans (iter_eq (St2 a0 a1) _ _ (fun q1 a => by
    have hc := congrFun (congrFun (rfl : (step2 N a0 a1) = (step2 N a0 a1)) (fun a => q1 (St2 a0 a1 a))) a
    obtain ⟨u0, u1⟩ := a
    exact (body2_0 N (orc T (G N) live [] N 2) (orc T (G N) live [] N 1) q1 a0 a1 u0 u1).trans hc) N a)
theorem G_ok (N : Nat) : GamOK Try.prog (G N) := gam_ok (l := [(53, [], laws_markText.sp N)]) (⟨laws_markText.snd N, trivial⟩)
theorem snd (N : Nat) : Sound Try.prog E 22 (sp N) :=
  Mir.sound T_OK (G_ok N) mixed Try.func22 (c := code) (by kernel_rfl) (by kernel_rfl) (sp N) (Nat.le_of_ble_eq_true (by kernel_rfl)) live [] (by
    rintro ⟨a0, a1, _⟩ r h
    exact ⟨N, 2, ((run N _ a0 a1).trans (congrArg (m0 N a0 a1) (funext fun a => lp2_eq N a0 a1 a))).trans h⟩)
end laws_heldStringS
namespace laws_FnExactCommittedData
noncomputable def code : Code := Try.f6.body.getD .skip
abbrev live : Live := []
noncomputable def G (N : Nat) : Ctx E := gam [(8, [], laws_szGroup.sp N), (10, [], laws_toGroup.sp N), (17, [], spec_CommittedData.sp N), (18, [], impl_CommittedData.sp N), (19, [], laws_eqStringS.sp N), (12, [], laws_eqGroup.sp N), (20, [], laws_markGroup.sp N), (21, [], laws_markStringS.sp N), (22, [], laws_heldStringS.sp N)]
noncomputable def m0 (N : Nat) (a0 : Group) : Option R :=
  ob (laws_szGroup.m N (Group.mk a0.Nodes a0.Wire a0.Leads a0.Dones) (1048576:Int)) fun y1 =>
  bif (decide (y1 < (0:Int))) then
    some true
  else
  ob (laws_toGroup.m N (Group.mk a0.Nodes a0.Wire a0.Leads a0.Dones)) fun y2 =>
  ob (spec_CommittedData.m N y2) fun y3 =>
  ob (laws_toGroup.m N a0) fun y4 =>
  ob (impl_CommittedData.m N y4) fun y5 =>
  ob (laws_eqStringS.m N y5.1 y3.1) fun y6 =>
  bif (!y6) then
    some false
  else
  bif (bif false then true else (y5.2 != y3.2)) then
    some false
  else
  ob (laws_toGroup.m N a0) fun y7 =>
  ob (laws_eqGroup.m N y4 y7) fun y8 =>
  bif (!y8) then
    some false
  else
  ob (laws_markGroup.m N y4 (1:Int)) fun y9 =>
  bif (decide (y9.1 < (0:Int))) then
    some false
  else
  ob (laws_eqStringS.m N y5.1 y3.1) fun y10 =>
  bif (bif false then true else (!y10)) then
    some false
  else
  bif (bif false then true else (y5.2 != y3.2)) then
    some false
  else
  ob (laws_markStringS.m N y5.1 (1:Int)) fun y11 =>
  ob (laws_heldStringS.m N y11.2 (1:Int)) fun y12 =>
  bif (decide (y12 < (0:Int))) then
    some false
  else
  bif (y12 != y11.1) then
    some false
  else
  ob (laws_toGroup.m N a0) fun y13 =>
  ob (impl_CommittedData.m N y13) fun y14 =>
  ob (laws_eqStringS.m N y14.1 y3.1) fun y15 =>
  bif (!y15) then
    some false
  else
  bif (bif false then true else (y14.2 != y3.2)) then
    some false
  else
  ob (laws_heldStringS.m N y11.2 (1:Int)) fun y16 =>
  bif (decide (y16 < (0:Int))) then
    some false
  else
  bif (y16 != y11.1) then
    some false
  else
  some true
theorem run (N : Nat) (o0 : Orc E R) (a0 : Group) : runF T (G N) live [] Try.f6 code (sp N) o0 (a0, ()) = m0 N a0 := by kernel_rfl
theorem G_ok (N : Nat) : GamOK Try.prog (G N) := gam_ok (l := [(8, [], laws_szGroup.sp N), (10, [], laws_toGroup.sp N), (17, [], spec_CommittedData.sp N), (18, [], impl_CommittedData.sp N), (19, [], laws_eqStringS.sp N), (12, [], laws_eqGroup.sp N), (20, [], laws_markGroup.sp N), (21, [], laws_markStringS.sp N), (22, [], laws_heldStringS.sp N)]) (⟨laws_szGroup.snd N, laws_toGroup.snd N, spec_CommittedData.snd N, impl_CommittedData.snd N, laws_eqStringS.snd N, laws_eqGroup.snd N, laws_markGroup.snd N, laws_markStringS.snd N, laws_heldStringS.snd N, trivial⟩)
theorem snd (N : Nat) : Sound Try.prog E 6 (sp N) :=
  Mir.sound T_OK (G_ok N) mixed Try.func6 (c := code) (by kernel_rfl) (by kernel_rfl) (sp N) (Nat.le_of_ble_eq_true (by kernel_rfl)) live [] (by
    rintro ⟨a0, _⟩ r h
    exact ⟨N, 2, ((run N _ a0).trans rfl).trans h⟩)
end laws_FnExactCommittedData
end Mir.Y
