/- The models are what the functions do. -/
import Derived.Test.YtigmgeablmomnaaOP2
namespace Mir.Y
set_option linter.unusedVariables false
set_option maxRecDepth 10000
open Go Go.Proofs Mir
namespace impl_worker_others_1
noncomputable def code : Code := Try.f173.body.getD .skip
abbrev live : Live := []
noncomputable def G (N : Nat) : Ctx E := gam []
noncomputable def m0 (N : Nat) (a0 : Int) (a1 : worker) : Option R :=
  some (a0 == a1.Node.Id)
theorem run (N : Nat) (o0 : Orc E R) (a0 : Int) (a1 : worker) : runF T (G N) live [] Try.f173 code (sp N) o0 (a0, a1, ()) = m0 N a0 a1 := by kernel_rfl
theorem G_ok (N : Nat) : GamOK Try.prog (G N) := gam_ok (l := []) (trivial)
theorem snd (N : Nat) : Sound Try.prog E 173 (sp N) :=
  Mir.sound T_OK (G_ok N) mixed Try.func173 (c := code) (by kernel_rfl) (by kernel_rfl) (sp N) (Nat.le_of_ble_eq_true (by kernel_rfl)) live [] (by
    rintro ⟨a0, a1, _⟩ r h
    exact ⟨N, 2, ((run N _ a0 a1).trans rfl).trans h⟩)
end impl_worker_others_1
namespace slices_IndexFunc_int_int__impl_worker_others_1
noncomputable def code : Code := Try.f157.body.getD .skip
abbrev live : Live := [(2, [0, 1, 7, 8])]
noncomputable def G (N : Nat) : Ctx E := gam [(173, [], impl_worker_others_1.sp N)]
noncomputable def loop2 : Code := codeAt code [1, 0, 1, 0]
noncomputable def body2 : Code := codeAt loop2 [0]
noncomputable def K2 (N : Nat) (o0 : Orc E R) : KT E R := kAt T (G N) live [] o0 code [1, 0, 1, 0] (kfin T Try.f157 (sp N))
noncomputable def St2 (a0 : List Int) (a1_0 : worker) : (Int × Int) → St E
  | (v1, v2) => { ρ := [(0, .c (.at (.ro 3 (.int .i64) a0))), (1, .clo 173 [.at (.ptr 0 0)]), (7, .c (.at (.int .i64 v1))), (8, .c (.at (.int .i64 v2)))], H := [(0, .rbx [.ptr 1 0]), (1, .rbx [.int .i64 a1_0.Node.Id, .int .i64 a1_0.Node.Term, .int .i64 a1_0.Node.Vote, .ro 96 (.st 96) a1_0.Node.Log, .ro 3 (.int .i64) a1_0.Node.Start, .int .i64 a1_0.Node.Role, .ro 3 (.int .i64) a1_0.Node.Votes, .ro 3 (.int .i64) a1_0.Node.Next, .ro 3 (.int .i64) a1_0.Node.Match, .int .i64 a1_0.Node.Commit, .int .i64 a1_0.Node.Elapsed, .int .i64 a1_0.Node.Wait, .bool a1_0.Node.Up, .ro 102 (.st 102) a1_0.sent])], nx := 2, n := 19, pin := [] }
noncomputable def m0 (N : Nat) (a0 : List Int) (a1_0 : worker) (lp2 : Int × Int → Option R) : Option R :=
  lp2 ((a0.length : Int), (0:Int))
theorem run (N : Nat) (o0 : Orc E R) (a0 : List Int) (a1_0 : worker) : runF T (G N) live [] Try.f157 code (sp N) o0 (a0, (a1_0, ()), ()) = m0 N a0 a1_0 (fun a => o0 loop2 (K2 N o0) (St2 a0 a1_0 a)) := by kernel_rfl
theorem body2_0 (N : Nat) (o0 : Orc E R) (o1 : Orc E R) (q1 : St E → Option R) (a0 : List Int) (a1_0 : worker) (v1 : Int) (v2 : Int) : runA T (G N) live [] o1 body2 (St2 a0 a1_0 (v1, v2)) (kloop [0, 1, 7, 8] q1 (K2 N o0)) = step2 N a0 a1_0 (fun a => q1 (St2 a0 a1_0 a)) (v1, v2) := by kernel_rfl
theorem lp2_eq (N : Nat) (a0 : List Int) (a1_0 : worker) (a : Int × Int) : (orc T (G N) live [] N 2) loop2 (K2 N (orc T (G N) live [] N 2)) (St2 a0 a1_0 a) = lp2 N a0 a1_0 a :=
  (orc_loop (b := body2) (live := [0, 1, 7, 8]) (by kernel_rfl)).trans (iter_eq (St2 a0 a1_0) _ _ (fun q1 a => by
    have hc := congrFun (congrFun (rfl : (step2 N a0 a1_0) = (step2 N a0 a1_0)) (fun a => q1 (St2 a0 a1_0 a))) a
    obtain ⟨u0, u1⟩ := a
    exact (body2_0 N (orc T (G N) live [] N 2) (orc T (G N) live [] N 1) q1 a0 a1_0 u0 u1).trans hc) N a)
theorem G_ok (N : Nat) : GamOK Try.prog (G N) := gam_ok (l := [(173, [], impl_worker_others_1.sp N)]) (⟨impl_worker_others_1.snd N, trivial⟩)
theorem snd (N : Nat) : Sound Try.prog E 157 (sp N) :=
  Mir.sound T_OK (G_ok N) mixed Try.func157 (c := code) (by kernel_rfl) (by kernel_rfl) (sp N) (Nat.le_of_ble_eq_true (by kernel_rfl)) live [] (by
    rintro ⟨a0, ⟨a1_0, _⟩, _⟩ r h
    exact ⟨N, 2, ((run N _ a0 a1_0).trans (congrArg (m0 N a0 a1_0) (funext fun a => lp2_eq N a0 a1_0 a))).trans h⟩)
end slices_IndexFunc_int_int__impl_worker_others_1
namespace slices_DeleteFunc_int_int__impl_worker_others_1
noncomputable def code : Code := Try.f172.body.getD .skip
abbrev live : Live := [(5, [0, 1, 5, 6])]
noncomputable def G (N : Nat) : Ctx E := gam [(157, [173], slices_IndexFunc_int_int__impl_worker_others_1.sp N), (173, [], impl_worker_others_1.sp N)]
noncomputable def loop5 : Code := codeAt code [1, 1, 1, 0, 1, 0]
noncomputable def body5 : Code := codeAt loop5 [0]
noncomputable def K5 (N : Nat) (o0 : Orc E R) : KT E R := kAt T (G N) live [] o0 code [1, 1, 1, 0, 1, 0] (kfin T Try.f172 (sp N))
noncomputable def St5 (a0 : List Int) (a1_0 : worker) : (Int × Int × (List Int)) → St E
  | (v0, v1, v2) => { ρ := [(0, .c (.at (.own 0))), (1, .clo 173 [.at (.ptr 1 0)]), (5, .c (.at (.int .i64 v0))), (6, .c (.at (.int .i64 v1)))], H := [(0, .row 3 (.int .i64) v2 false), (1, .rbx [.ptr 2 0]), (2, .rbx [.int .i64 a1_0.Node.Id, .int .i64 a1_0.Node.Term, .int .i64 a1_0.Node.Vote, .ro 96 (.st 96) a1_0.Node.Log, .ro 3 (.int .i64) a1_0.Node.Start, .int .i64 a1_0.Node.Role, .ro 3 (.int .i64) a1_0.Node.Votes, .ro 3 (.int .i64) a1_0.Node.Next, .ro 3 (.int .i64) a1_0.Node.Match, .int .i64 a1_0.Node.Commit, .int .i64 a1_0.Node.Elapsed, .int .i64 a1_0.Node.Wait, .bool a1_0.Node.Up, .ro 102 (.st 102) a1_0.sent])], nx := 3, n := 42, pin := [] }
noncomputable def m0 (N : Nat) (a0 : List Int) (a1_0 : worker) (lp5 : Int × Int × (List Int) → Option R) : Option R :=
  ob (slices_IndexFunc_int_int__impl_worker_others_1.m N a0 (worker.mk (Node.mk a1_0.Node.Id a1_0.Node.Term a1_0.Node.Vote a1_0.Node.Log a1_0.Node.Start a1_0.Node.Role a1_0.Node.Votes a1_0.Node.Next a1_0.Node.Match a1_0.Node.Commit a1_0.Node.Elapsed a1_0.Node.Wait a1_0.Node.Up) a1_0.sent)) fun y1 =>
  bif (y1 == (-1:Int)) then
    some a0
  else
  lp5 (y1, (w64 (y1 + (1:Int))), a0)
theorem run (N : Nat) (o0 : Orc E R) (a0 : List Int) (a1_0 : worker) : runF T (G N) live [] Try.f172 code (sp N) o0 (a0, (a1_0, ()), ()) = m0 N a0 a1_0 (fun a => o0 loop5 (K5 N o0) (St5 a0 a1_0 a)) := by kernel_rfl
theorem body5_0 (N : Nat) (o0 : Orc E R) (o1 : Orc E R) (q1 : St E → Option R) (a0 : List Int) (a1_0 : worker) (v0 : Int) (v1 : Int) (v2 : List Int) : runA T (G N) live [] o1 body5 (St5 a0 a1_0 (v0, v1, v2)) (kloop [0, 1, 5, 6] q1 (K5 N o0)) = step5 N a0 a1_0 (fun a => q1 (St5 a0 a1_0 a)) (v0, v1, v2) := by kernel_rfl
theorem lp5_eq (N : Nat) (a0 : List Int) (a1_0 : worker) (a : Int × Int × (List Int)) : (orc T (G N) live [] N 2) loop5 (K5 N (orc T (G N) live [] N 2)) (St5 a0 a1_0 a) = lp5 N a0 a1_0 a :=
  (orc_loop (b := body5) (live := [0, 1, 5, 6]) (by kernel_rfl)).trans (iter_eq (St5 a0 a1_0) _ _ (fun q1 a => by
    have hc := congrFun (congrFun (rfl : (step5 N a0 a1_0) = (step5 N a0 a1_0)) (fun a => q1 (St5 a0 a1_0 a))) a
    obtain ⟨u0, u1, u2⟩ := a
    exact (body5_0 N (orc T (G N) live [] N 2) (orc T (G N) live [] N 1) q1 a0 a1_0 u0 u1 u2).trans hc) N a)
theorem G_ok (N : Nat) : GamOK Try.prog (G N) := gam_ok (l := [(157, [173], slices_IndexFunc_int_int__impl_worker_others_1.sp N), (173, [], impl_worker_others_1.sp N)]) (⟨slices_IndexFunc_int_int__impl_worker_others_1.snd N, impl_worker_others_1.snd N, trivial⟩)
theorem snd (N : Nat) : Sound Try.prog E 172 (sp N) :=
  Mir.sound T_OK (G_ok N) mixed Try.func172 (c := code) (by kernel_rfl) (by kernel_rfl) (sp N) (Nat.le_of_ble_eq_true (by kernel_rfl)) live [] (by
    rintro ⟨a0, ⟨a1_0, _⟩, _⟩ r h
    exact ⟨N, 2, ((run N _ a0 a1_0).trans (congrArg (m0 N a0 a1_0) (funext fun a => lp5_eq N a0 a1_0 a))).trans h⟩)
end slices_DeleteFunc_int_int__impl_worker_others_1
namespace impl_worker_others_
noncomputable def code : Code := Try.f164.body.getD .skip
abbrev live : Live := []
noncomputable def G (N : Nat) : Ctx E := gam [(75, [], impl_Node_members.sp N), (172, [173], slices_DeleteFunc_int_int__impl_worker_others_1.sp N)]
noncomputable def m0 (N : Nat) (a0 : worker) : Option R :=
  ob (impl_Node_members.m N (Node.mk a0.Node.Id a0.Node.Term a0.Node.Vote a0.Node.Log a0.Node.Start a0.Node.Role a0.Node.Votes a0.Node.Next a0.Node.Match a0.Node.Commit a0.Node.Elapsed a0.Node.Wait a0.Node.Up)) fun y1 =>
  ob (slices_DeleteFunc_int_int__impl_worker_others_1.m N y1 (worker.mk (Node.mk a0.Node.Id a0.Node.Term a0.Node.Vote a0.Node.Log a0.Node.Start a0.Node.Role a0.Node.Votes a0.Node.Next a0.Node.Match a0.Node.Commit a0.Node.Elapsed a0.Node.Wait a0.Node.Up) a0.sent)) fun y2 =>
  some y2
theorem run (N : Nat) (o0 : Orc E R) (a0 : worker) : runF T (G N) live [] Try.f164 code (sp N) o0 (a0, ()) = m0 N a0 := by kernel_rfl
theorem G_ok (N : Nat) : GamOK Try.prog (G N) := gam_ok (l := [(75, [], impl_Node_members.sp N), (172, [173], slices_DeleteFunc_int_int__impl_worker_others_1.sp N)]) (⟨impl_Node_members.snd N, slices_DeleteFunc_int_int__impl_worker_others_1.snd N, trivial⟩)
theorem snd (N : Nat) : Sound Try.prog E 164 (sp N) :=
  Mir.sound T_OK (G_ok N) mixed Try.func164 (c := code) (by kernel_rfl) (by kernel_rfl) (sp N) (Nat.le_of_ble_eq_true (by kernel_rfl)) live [] (by
    rintro ⟨a0, _⟩ r h
    exact ⟨N, 2, ((run N _ a0).trans rfl).trans h⟩)
end impl_worker_others_
namespace impl_worker_send_
noncomputable def code : Code := Try.f169.body.getD .skip
abbrev live : Live := []
noncomputable def G (N : Nat) : Ctx E := gam []
noncomputable def m0 (N : Nat) (a0 : worker) (a1 : Message) : Option R :=
  bif (room (a0.sent.length + ([(Message.mk a1.Kind a0.Node.Id a1.To a0.Node.Term a1.Index a1.LogTerm a1.Commit a1.Entries a1.Ok)]).length) 88) then
  some (worker.mk (Node.mk a0.Node.Id a0.Node.Term a0.Node.Vote a0.Node.Log a0.Node.Start a0.Node.Role a0.Node.Votes a0.Node.Next a0.Node.Match a0.Node.Commit a0.Node.Elapsed a0.Node.Wait a0.Node.Up) (a0.sent ++ [(Message.mk a1.Kind a0.Node.Id a1.To a0.Node.Term a1.Index a1.LogTerm a1.Commit a1.Entries a1.Ok)]))
  else none
theorem run (N : Nat) (o0 : Orc E R) (a0 : worker) (a1 : Message) : runF TD (G N) live [] Try.f169 code (sp N) o0 (a0, a1, ()) = m0 N a0 a1 := by kernel_rfl
theorem G_ok (N : Nat) : GamOK Try.prog (G N) := gam_ok (l := []) (trivial)
theorem snd (N : Nat) : Sound Try.prog E 169 (sp N) :=
  Mir.sound TD_OK (G_ok N) mixed Try.func169 (c := code) (by kernel_rfl) (by kernel_rfl) (sp N) (Nat.le_of_ble_eq_true (by kernel_rfl)) live [] (by
    rintro ⟨a0, a1, _⟩ r h
    exact ⟨N, 2, ((run N _ a0 a1).trans rfl).trans h⟩)
end impl_worker_send_
namespace impl_worker_tell_
noncomputable def code : Code := Try.f165.body.getD .skip
abbrev live : Live := []
noncomputable def G (N : Nat) : Ctx E := gam [(127, [], impl_Node_termAt.sp N), (77, [], slices_Clone_impl_Entry_impl_Entry.sp N), (169, [], impl_worker_send_.sp N)]
noncomputable def m0 (N : Nat) (a0 : worker) (a1 : Int) (a2 : Int) : Option R :=
  bif (decide (0 ≤ a1)) then
  bif (decide (a1 < (a0.Node.Next.length : Int))) then
  ob (impl_Node_termAt.m N (Node.mk a0.Node.Id a0.Node.Term a0.Node.Vote a0.Node.Log a0.Node.Start a0.Node.Role a0.Node.Votes a0.Node.Next a0.Node.Match a0.Node.Commit a0.Node.Elapsed a0.Node.Wait a0.Node.Up) (w64 ((a0.Node.Next.getD (Int.toNat a1) (0:Int)) - (1:Int)))) fun y1 =>
  bif (decide (0 ≤ (w64 ((a0.Node.Next.getD (Int.toNat a1) (0:Int)) - (1:Int))))) then
  bif (decide ((w64 ((a0.Node.Next.getD (Int.toNat a1) (0:Int)) - (1:Int))) ≤ (((a0.Node.Log.length) : Nat) : Int))) then
  bif (decide ((Int.toNat (w64 ((a0.Node.Next.getD (Int.toNat a1) (0:Int)) - (1:Int)))) + ((a0.Node.Log.length) - (Int.toNat (w64 ((a0.Node.Next.getD (Int.toNat a1) (0:Int)) - (1:Int))))) ≤ a0.Node.Log.length)) then
  ob (slices_Clone_impl_Entry_impl_Entry.m N ((a0.Node.Log.drop (Int.toNat (w64 ((a0.Node.Next.getD (Int.toNat a1) (0:Int)) - (1:Int))))).take ((a0.Node.Log.length) - (Int.toNat (w64 ((a0.Node.Next.getD (Int.toNat a1) (0:Int)) - (1:Int))))))) fun y2 =>
  ob (impl_worker_send_.m N (worker.mk (Node.mk a0.Node.Id a0.Node.Term a0.Node.Vote a0.Node.Log a0.Node.Start a0.Node.Role a0.Node.Votes a0.Node.Next a0.Node.Match a0.Node.Commit a0.Node.Elapsed a0.Node.Wait a0.Node.Up) a0.sent) (Message.mk (3:Int) (0:Int) a1 (0:Int) (w64 ((a0.Node.Next.getD (Int.toNat a1) (0:Int)) - (1:Int))) y1 a2 y2 false)) fun y3 =>
  some (worker.mk (Node.mk y3.Node.Id y3.Node.Term y3.Node.Vote y3.Node.Log y3.Node.Start y3.Node.Role y3.Node.Votes y3.Node.Next y3.Node.Match y3.Node.Commit y3.Node.Elapsed y3.Node.Wait y3.Node.Up) y3.sent)
  else none
  else none
  else none
  else none
  else none
theorem run (N : Nat) (o0 : Orc E R) (a0 : worker) (a1 : Int) (a2 : Int) : runF TD (G N) live [] Try.f165 code (sp N) o0 (a0, a1, a2, ()) = m0 N a0 a1 a2 := by kernel_rfl
theorem G_ok (N : Nat) : GamOK Try.prog (G N) := gam_ok (l := [(127, [], impl_Node_termAt.sp N), (77, [], slices_Clone_impl_Entry_impl_Entry.sp N), (169, [], impl_worker_send_.sp N)]) (⟨impl_Node_termAt.snd N, slices_Clone_impl_Entry_impl_Entry.snd N, impl_worker_send_.snd N, trivial⟩)
theorem snd (N : Nat) : Sound Try.prog E 165 (sp N) :=
  Mir.sound TD_OK (G_ok N) mixed Try.func165 (c := code) (by kernel_rfl) (by kernel_rfl) (sp N) (Nat.le_of_ble_eq_true (by kernel_rfl)) live [] (by
    rintro ⟨a0, a1, a2, _⟩ r h
    exact ⟨N, 2, ((run N _ a0 a1 a2).trans rfl).trans h⟩)
end impl_worker_tell_
namespace impl_worker_tellAll
noncomputable def code : Code := Try.f136.body.getD .skip
abbrev live : Live := [(1, [0, 1, 7, 8, 9])]
noncomputable def G (N : Nat) : Ctx E := gam [(164, [], impl_worker_others_.sp N), (165, [], impl_worker_tell_.sp N)]
noncomputable def loop1 : Code := codeAt code [1, 0]
noncomputable def body1 : Code := codeAt loop1 [0]
noncomputable def K1 (N : Nat) (o0 : Orc E R) : KT E R := kAt TD (G N) live [] o0 code [1, 0] (kfin TD Try.f136 (sp N))
noncomputable def St1 (a0 : worker) (a1 : Int) : (Int × Int × Int × Int × Int × Int × Int × Int × Int × Bool × (List Entry) × (List Int) × (List Int) × (List Int) × (List Int) × (List Message) × (List Int)) → St E
  | (v1, v2, v3, v4, v5, v6, v7, v8, v9, v10, v11, v12, v13, v14, v15, v16, v17) => { ρ := [(0, .c (.at (.ptr 0 0))), (1, .c (.at (.int .i64 a1))), (7, .c (.at (.own 8))), (8, .c (.at (.int .i64 v1))), (9, .c (.at (.int .i64 v2)))], H := [(0, .box 107 [.int .i64 v3, .int .i64 v4, .int .i64 v5, .own 1, .own 2, .int .i64 v6, .own 3, .own 4, .own 5, .int .i64 v7, .int .i64 v8, .int .i64 v9, .bool v10, .own 6]), (1, .row 96 (.st 96) v11 false), (2, .row 3 (.int .i64) v12 false), (3, .row 3 (.int .i64) v13 false), (4, .row 3 (.int .i64) v14 false), (5, .row 3 (.int .i64) v15 false), (6, .drow 102 (.st 102) v16 7), (7, .hdr), (8, .row 3 (.int .i64) v17 false)], nx := 9, n := 18, pin := [0] }
noncomputable def m0 (N : Nat) (a0 : worker) (a1 : Int) (lp1 : Int × Int × Int × Int × Int × Int × Int × Int × Int × Bool × (List Entry) × (List Int) × (List Int) × (List Int) × (List Int) × (List Message) × (List Int) → Option R) : Option R :=
  ob (impl_worker_others_.m N (worker.mk (Node.mk a0.Node.Id a0.Node.Term a0.Node.Vote a0.Node.Log a0.Node.Start a0.Node.Role a0.Node.Votes a0.Node.Next a0.Node.Match a0.Node.Commit a0.Node.Elapsed a0.Node.Wait a0.Node.Up) a0.sent)) fun y1 =>
  lp1 ((y1.length : Int), (0:Int), a0.Node.Id, a0.Node.Term, a0.Node.Vote, a0.Node.Role, a0.Node.Commit, a0.Node.Elapsed, a0.Node.Wait, a0.Node.Up, a0.Node.Log, a0.Node.Start, a0.Node.Votes, a0.Node.Next, a0.Node.Match, a0.sent, y1)
theorem run (N : Nat) (o0 : Orc E R) (a0 : worker) (a1 : Int) : runF TD (G N) live [] Try.f136 code (sp N) o0 (a0, a1, ()) = m0 N a0 a1 (fun a => o0 loop1 (K1 N o0) (St1 a0 a1 a)) := by kernel_rfl
theorem body1_0 (N : Nat) (o0 : Orc E R) (o1 : Orc E R) (q1 : St E → Option R) (a0 : worker) (a1 : Int) (v1 : Int) (v2 : Int) (v3 : Int) (v4 : Int) (v5 : Int) (v6 : Int) (v7 : Int) (v8 : Int) (v9 : Int) (v10 : Bool) (v11 : List Entry) (v12 : List Int) (v13 : List Int) (v14 : List Int) (v15 : List Int) (v16 : List Message) (v17 : List Int) : runA TD (G N) live [] o1 body1 (St1 a0 a1 (v1, v2, v3, v4, v5, v6, v7, v8, v9, v10, v11, v12, v13, v14, v15, v16, v17)) (kloop [0, 1, 7, 8, 9] q1 (K1 N o0)) = step1 N a0 a1 (fun a => q1 (St1 a0 a1 a)) (v1, v2, v3, v4, v5, v6, v7, v8, v9, v10, v11, v12, v13, v14, v15, v16, v17) := by kernel_rfl
theorem lp1_eq (N : Nat) (a0 : worker) (a1 : Int) (a : Int × Int × Int × Int × Int × Int × Int × Int × Int × Bool × (List Entry) × (List Int) × (List Int) × (List Int) × (List Int) × (List Message) × (List Int)) : (orc TD (G N) live [] N 2) loop1 (K1 N (orc TD (G N) live [] N 2)) (St1 a0 a1 a) = lp1 N a0 a1 a :=
  (orc_loop (b := body1) (live := [0, 1, 7, 8, 9]) (by kernel_rfl)).trans (iter_eq (St1 a0 a1) _ _ (fun q1 a => by
    have hc := congrFun (congrFun (rfl : (step1 N a0 a1) = (step1 N a0 a1)) (fun a => q1 (St1 a0 a1 a))) a
    obtain ⟨u0, u1, u2, u3, u4, u5, u6, u7, u8, u9, u10, u11, u12, u13, u14, u15, u16⟩ := a
    exact (body1_0 N (orc TD (G N) live [] N 2) (orc TD (G N) live [] N 1) q1 a0 a1 u0 u1 u2 u3 u4 u5 u6 u7 u8 u9 u10 u11 u12 u13 u14 u15 u16).trans hc) N a)
theorem G_ok (N : Nat) : GamOK Try.prog (G N) := gam_ok (l := [(164, [], impl_worker_others_.sp N), (165, [], impl_worker_tell_.sp N)]) (⟨impl_worker_others_.snd N, impl_worker_tell_.snd N, trivial⟩)
theorem snd (N : Nat) : Sound Try.prog E 136 (sp N) :=
  Mir.sound TD_OK (G_ok N) mixed Try.func136 (c := code) (by kernel_rfl) (by kernel_rfl) (sp N) (Nat.le_of_ble_eq_true (by kernel_rfl)) live [] (by
    rintro ⟨a0, a1, _⟩ r h
    exact ⟨N, 2, ((run N _ a0 a1).trans (congrArg (m0 N a0 a1) (funext fun a => lp1_eq N a0 a1 a))).trans h⟩)
end impl_worker_tellAll
namespace impl_worker_asNode
noncomputable def code : Code := Try.f86.body.getD .skip
abbrev live : Live := []
noncomputable def G (N : Nat) : Ctx E := gam [(84, [], impl_copyNode.sp N)]
noncomputable def m0 (N : Nat) (a0 : worker) : Option R :=
  ob (impl_copyNode.m N (Node.mk a0.Node.Id a0.Node.Term a0.Node.Vote a0.Node.Log a0.Node.Start a0.Node.Role a0.Node.Votes a0.Node.Next a0.Node.Match a0.Node.Commit a0.Node.Elapsed a0.Node.Wait a0.Node.Up)) fun y1 =>
  some (y1, a0.sent)
theorem run (N : Nat) (o0 : Orc E R) (a0 : worker) : runF TD (G N) live [] Try.f86 code (sp N) o0 (a0, ()) = m0 N a0 := by kernel_rfl
theorem G_ok (N : Nat) : GamOK Try.prog (G N) := gam_ok (l := [(84, [], impl_copyNode.sp N)]) (⟨impl_copyNode.snd N, trivial⟩)
theorem snd (N : Nat) : Sound Try.prog E 86 (sp N) :=
  Mir.sound TD_OK (G_ok N) mixed Try.func86 (c := code) (by kernel_rfl) (by kernel_rfl) (sp N) (Nat.le_of_ble_eq_true (by kernel_rfl)) live [] (by
    rintro ⟨a0, _⟩ r h
    exact ⟨N, 2, ((run N _ a0).trans rfl).trans h⟩)
end impl_worker_asNode
namespace impl_propose
noncomputable def code : Code := Try.f81.body.getD .skip
abbrev live : Live := []
noncomputable def G (N : Nat) : Ctx E := gam [(84, [], impl_copyNode.sp N), (135, [], impl_worker_commit.sp N), (136, [], impl_worker_tellAll.sp N), (86, [], impl_worker_asNode.sp N)]
noncomputable def m0 (N : Nat) (a0 : Node) (a1 : Int) (a2 : ByteArray) : Option R :=
  bif (!a0.Up) then
    ob (impl_copyNode.m N a0) fun y1 =>
    some (y1, ([] : List Message), (5:Int))
  else
  bif (a0.Role != (2:Int)) then
    ob (impl_copyNode.m N a0) fun y2 =>
    some (y2, ([] : List Message), (14:Int))
  else
  bif ((a0.Log.length : Int) == (60:Int)) then
    ob (impl_copyNode.m N a0) fun y3 =>
    some (y3, ([] : List Message), (7:Int))
  else
  ob (impl_copyNode.m N a0) fun y4 =>
  bif (room (y4.Log.length + ([(Entry.mk a0.Term a1 a2)]).length) 32) then
  ob (impl_worker_commit.m N (worker.mk (Node.mk y4.Id y4.Term y4.Vote (y4.Log ++ [(Entry.mk a0.Term a1 a2)]) y4.Start y4.Role y4.Votes y4.Next y4.Match y4.Commit y4.Elapsed y4.Wait y4.Up) ([] : List Message))) fun y5 =>
  ob (impl_worker_tellAll.m N (worker.mk (Node.mk y5.Node.Id y5.Node.Term y5.Node.Vote y5.Node.Log y5.Node.Start y5.Node.Role y5.Node.Votes y5.Node.Next y5.Node.Match y5.Node.Commit y5.Node.Elapsed y5.Node.Wait y5.Node.Up) y5.sent) y5.Node.Commit) fun y6 =>
  ob (impl_worker_asNode.m N (worker.mk (Node.mk y6.Node.Id y6.Node.Term y6.Node.Vote y6.Node.Log y6.Node.Start y6.Node.Role y6.Node.Votes y6.Node.Next y6.Node.Match y6.Node.Commit y6.Node.Elapsed y6.Node.Wait y6.Node.Up) y6.sent)) fun y7 =>
  some (y7.1, y7.2, (0:Int))
  else none
theorem run (N : Nat) (o0 : Orc E R) (a0 : Node) (a1 : Int) (a2 : ByteArray) : runF TD (G N) live [] Try.f81 code (sp N) o0 (a0, a1, a2, ()) = m0 N a0 a1 a2 := by kernel_rfl
theorem G_ok (N : Nat) : GamOK Try.prog (G N) := gam_ok (l := [(84, [], impl_copyNode.sp N), (135, [], impl_worker_commit.sp N), (136, [], impl_worker_tellAll.sp N), (86, [], impl_worker_asNode.sp N)]) (⟨impl_copyNode.snd N, impl_worker_commit.snd N, impl_worker_tellAll.snd N, impl_worker_asNode.snd N, trivial⟩)
theorem snd (N : Nat) : Sound Try.prog E 81 (sp N) :=
  Mir.sound TD_OK (G_ok N) mixed Try.func81 (c := code) (by kernel_rfl) (by kernel_rfl) (sp N) (Nat.le_of_ble_eq_true (by kernel_rfl)) live [] (by
    rintro ⟨a0, a1, a2, _⟩ r h
    exact ⟨N, 2, ((run N _ a0 a1 a2).trans rfl).trans h⟩)
end impl_propose
namespace impl_NodePropose
noncomputable def code : Code := Try.f34.body.getD .skip
abbrev live : Live := []
noncomputable def G (N : Nat) : Ctx E := gam [(80, [], impl_isText.sp N), (25, [], impl_NodeOK.sp N), (70, [], impl_within.sp N), (81, [], impl_propose.sp N)]
noncomputable def m0 (N : Nat) (a0 : Node) (a1 : ByteArray) : Option R :=
  ob (impl_isText.m N ([a1])) fun y1 =>
  bif (!y1) then
    some ((Node.mk (0:Int) (0:Int) (0:Int) ([] : List Entry) ([] : List Int) (0:Int) ([] : List Int) ([] : List Int) ([] : List Int) (0:Int) (0:Int) (0:Int) false), ([] : List Message), (2:Int))
  else
  ob (impl_NodeOK.m N (Node.mk a0.Id a0.Term a0.Vote a0.Log a0.Start a0.Role a0.Votes a0.Next a0.Match a0.Commit a0.Elapsed a0.Wait a0.Up)) fun y2 =>
  bif (!y2) then
    some ((Node.mk (0:Int) (0:Int) (0:Int) ([] : List Entry) ([] : List Int) (0:Int) ([] : List Int) ([] : List Int) ([] : List Int) (0:Int) (0:Int) (0:Int) false), ([] : List Message), (1:Int))
  else
  ob (impl_within.m N (a1.size : Int) (1:Int) (100:Int)) fun y3 =>
  bif (bif false then true else (!y3)) then
    some ((Node.mk (0:Int) (0:Int) (0:Int) ([] : List Entry) ([] : List Int) (0:Int) ([] : List Int) ([] : List Int) ([] : List Int) (0:Int) (0:Int) (0:Int) false), ([] : List Message), (1:Int))
  else
  ob (impl_propose.m N (Node.mk a0.Id a0.Term a0.Vote a0.Log a0.Start a0.Role a0.Votes a0.Next a0.Match a0.Commit a0.Elapsed a0.Wait a0.Up) (1:Int) a1) fun y4 =>
  some (y4.1, y4.2.1, y4.2.2)
theorem run (N : Nat) (o0 : Orc E R) (a0 : Node) (a1 : ByteArray) : runF TD (G N) live [] Try.f34 code (sp N) o0 (a0, a1, ()) = m0 N a0 a1 := by kernel_rfl
theorem G_ok (N : Nat) : GamOK Try.prog (G N) := gam_ok (l := [(80, [], impl_isText.sp N), (25, [], impl_NodeOK.sp N), (70, [], impl_within.sp N), (81, [], impl_propose.sp N)]) (⟨impl_isText.snd N, impl_NodeOK.snd N, impl_within.snd N, impl_propose.snd N, trivial⟩)
theorem snd (N : Nat) : Sound Try.prog E 34 (sp N) :=
  Mir.sound TD_OK (G_ok N) mixed Try.func34 (c := code) (by kernel_rfl) (by kernel_rfl) (sp N) (Nat.le_of_ble_eq_true (by kernel_rfl)) live [] (by
    rintro ⟨a0, a1, _⟩ r h
    exact ⟨N, 2, ((run N _ a0 a1).trans rfl).trans h⟩)
end impl_NodePropose
namespace laws_eqEntry
noncomputable def code : Code := Try.f118.body.getD .skip
abbrev live : Live := []
noncomputable def G (N : Nat) : Ctx E := gam []
noncomputable def m0 (N : Nat) (a0 : Entry) (a1 : Entry) : Option R :=
  bif (a0.Term != a1.Term) then
    some false
  else
  bif (a0.Kind != a1.Kind) then
    some false
  else
  bif (!seq a0.Data a1.Data) then
    some false
  else
  some true
theorem run (N : Nat) (o0 : Orc E R) (a0 : Entry) (a1 : Entry) : runF T (G N) live [] Try.f118 code (sp N) o0 (a0, a1, ()) = m0 N a0 a1 := by kernel_rfl
theorem G_ok (N : Nat) : GamOK Try.prog (G N) := gam_ok (l := []) (trivial)
theorem snd (N : Nat) : Sound Try.prog E 118 (sp N) :=
  Mir.sound T_OK (G_ok N) mixed Try.func118 (c := code) (by kernel_rfl) (by kernel_rfl) (sp N) (Nat.le_of_ble_eq_true (by kernel_rfl)) live [] (by
    rintro ⟨a0, a1, _⟩ r h
    exact ⟨N, 2, ((run N _ a0 a1).trans rfl).trans h⟩)
end laws_eqEntry
namespace laws_eqEntryS
noncomputable def code : Code := Try.f60.body.getD .skip
abbrev live : Live := [(4, [0, 1, 5])]
noncomputable def G (N : Nat) : Ctx E := gam [(118, [], laws_eqEntry.sp N)]
noncomputable def loop4 : Code := codeAt code [1, 1, 0, 1, 0]
noncomputable def body4 : Code := codeAt loop4 [0]
noncomputable def K4 (N : Nat) (o0 : Orc E R) : KT E R := kAt T (G N) live [] o0 code [1, 1, 0, 1, 0] (kfin T Try.f60 (sp N))
noncomputable def St4 (a0 : List Entry) (a1 : List Entry) : Int → St E
  | v2 => { ρ := [(0, .c (.at (.ro 96 (.st 96) a0))), (1, .c (.at (.ro 96 (.st 96) a1))), (5, .c (.at (.int .i64 v2)))], H := [], nx := 0, n := 27, pin := [] }
noncomputable def m0 (N : Nat) (a0 : List Entry) (a1 : List Entry) (lp4 : Int → Option R) : Option R :=
  bif ((a0.length : Int) != (a1.length : Int)) then
    some false
  else
  lp4 (0:Int)
theorem run (N : Nat) (o0 : Orc E R) (a0 : List Entry) (a1 : List Entry) : runF T (G N) live [] Try.f60 code (sp N) o0 (a0, a1, ()) = m0 N a0 a1 (fun a => o0 loop4 (K4 N o0) (St4 a0 a1 a)) := by kernel_rfl
theorem body4_0 (N : Nat) (o0 : Orc E R) (o1 : Orc E R) (q1 : St E → Option R) (a0 : List Entry) (a1 : List Entry) (v2 : Int) : runA T (G N) live [] o1 body4 (St4 a0 a1 v2) (kloop [0, 1, 5] q1 (K4 N o0)) = step4 N a0 a1 (fun a => q1 (St4 a0 a1 a)) v2 := by kernel_rfl
theorem lp4_eq (N : Nat) (a0 : List Entry) (a1 : List Entry) (a : Int) : (orc T (G N) live [] N 2) loop4 (K4 N (orc T (G N) live [] N 2)) (St4 a0 a1 a) = lp4 N a0 a1 a :=
  (orc_loop (b := body4) (live := [0, 1, 5]) (by kernel_rfl)).trans (iter_eq (St4 a0 a1) _ _ (fun q1 a => by
    have hc := congrFun (congrFun (rfl : (step4 N a0 a1) = (step4 N a0 a1)) (fun a => q1 (St4 a0 a1 a))) a
    exact (body4_0 N (orc T (G N) live [] N 2) (orc T (G N) live [] N 1) q1 a0 a1 a).trans hc) N a)
theorem G_ok (N : Nat) : GamOK Try.prog (G N) := gam_ok (l := [(118, [], laws_eqEntry.sp N)]) (⟨laws_eqEntry.snd N, trivial⟩)
theorem snd (N : Nat) : Sound Try.prog E 60 (sp N) :=
  Mir.sound T_OK (G_ok N) mixed Try.func60 (c := code) (by kernel_rfl) (by kernel_rfl) (sp N) (Nat.le_of_ble_eq_true (by kernel_rfl)) live [] (by
    rintro ⟨a0, a1, _⟩ r h
    exact ⟨N, 2, ((run N _ a0 a1).trans (congrArg (m0 N a0 a1) (funext fun a => lp4_eq N a0 a1 a))).trans h⟩)
end laws_eqEntryS
namespace laws_eqIntS
noncomputable def code : Code := Try.f18.body.getD .skip
abbrev live : Live := [(4, [0, 1, 5])]
noncomputable def G (N : Nat) : Ctx E := gam []
noncomputable def loop4 : Code := codeAt code [1, 1, 0, 1, 0]
noncomputable def body4 : Code := codeAt loop4 [0]
noncomputable def K4 (N : Nat) (o0 : Orc E R) : KT E R := kAt T (G N) live [] o0 code [1, 1, 0, 1, 0] (kfin T Try.f18 (sp N))
noncomputable def St4 (a0 : List Int) (a1 : List Int) : Int → St E
  | v2 => { ρ := [(0, .c (.at (.ro 3 (.int .i64) a0))), (1, .c (.at (.ro 3 (.int .i64) a1))), (5, .c (.at (.int .i64 v2)))], H := [], nx := 0, n := 26, pin := [] }
noncomputable def m0 (N : Nat) (a0 : List Int) (a1 : List Int) (lp4 : Int → Option R) : Option R :=
  bif ((a0.length : Int) != (a1.length : Int)) then
    some false
  else
  lp4 (0:Int)
theorem run (N : Nat) (o0 : Orc E R) (a0 : List Int) (a1 : List Int) : runF T (G N) live [] Try.f18 code (sp N) o0 (a0, a1, ()) = m0 N a0 a1 (fun a => o0 loop4 (K4 N o0) (St4 a0 a1 a)) := by kernel_rfl
theorem body4_0 (N : Nat) (o0 : Orc E R) (o1 : Orc E R) (q1 : St E → Option R) (a0 : List Int) (a1 : List Int) (v2 : Int) : runA T (G N) live [] o1 body4 (St4 a0 a1 v2) (kloop [0, 1, 5] q1 (K4 N o0)) = step4 N a0 a1 (fun a => q1 (St4 a0 a1 a)) v2 := by kernel_rfl
theorem lp4_eq (N : Nat) (a0 : List Int) (a1 : List Int) (a : Int) : (orc T (G N) live [] N 2) loop4 (K4 N (orc T (G N) live [] N 2)) (St4 a0 a1 a) = lp4 N a0 a1 a :=
  (orc_loop (b := body4) (live := [0, 1, 5]) (by kernel_rfl)).trans (iter_eq (St4 a0 a1) _ _ (fun q1 a => by
    have hc := congrFun (congrFun (rfl : (step4 N a0 a1) = (step4 N a0 a1)) (fun a => q1 (St4 a0 a1 a))) a
    exact (body4_0 N (orc T (G N) live [] N 2) (orc T (G N) live [] N 1) q1 a0 a1 a).trans hc) N a)
theorem G_ok (N : Nat) : GamOK Try.prog (G N) := gam_ok (l := []) (trivial)
theorem snd (N : Nat) : Sound Try.prog E 18 (sp N) :=
  Mir.sound T_OK (G_ok N) mixed Try.func18 (c := code) (by kernel_rfl) (by kernel_rfl) (sp N) (Nat.le_of_ble_eq_true (by kernel_rfl)) live [] (by
    rintro ⟨a0, a1, _⟩ r h
    exact ⟨N, 2, ((run N _ a0 a1).trans (congrArg (m0 N a0 a1) (funext fun a => lp4_eq N a0 a1 a))).trans h⟩)
end laws_eqIntS
namespace laws_eqNode
noncomputable def code : Code := Try.f17.body.getD .skip
abbrev live : Live := []
noncomputable def G (N : Nat) : Ctx E := gam [(60, [], laws_eqEntryS.sp N), (18, [], laws_eqIntS.sp N)]
noncomputable def m0 (N : Nat) (a0 : Node) (a1 : Node) : Option R :=
  bif (a0.Id != a1.Id) then
    some false
  else
  bif (a0.Term != a1.Term) then
    some false
  else
  bif (a0.Vote != a1.Vote) then
    some false
  else
  ob (laws_eqEntryS.m N a0.Log a1.Log) fun y1 =>
  bif (!y1) then
    some false
  else
  ob (laws_eqIntS.m N a0.Start a1.Start) fun y2 =>
  bif (!y2) then
    some false
  else
  bif (a0.Role != a1.Role) then
    some false
  else
  ob (laws_eqIntS.m N a0.Votes a1.Votes) fun y3 =>
  bif (!y3) then
    some false
  else
  ob (laws_eqIntS.m N a0.Next a1.Next) fun y4 =>
  bif (!y4) then
    some false
  else
  ob (laws_eqIntS.m N a0.Match a1.Match) fun y5 =>
  bif (!y5) then
    some false
  else
  bif (a0.Commit != a1.Commit) then
    some false
  else
  bif (a0.Elapsed != a1.Elapsed) then
    some false
  else
  bif (a0.Wait != a1.Wait) then
    some false
  else
  bif (!(a0.Up == a1.Up)) then
    some false
  else
  some true
theorem run (N : Nat) (o0 : Orc E R) (a0 : Node) (a1 : Node) : runF T (G N) live [] Try.f17 code (sp N) o0 (a0, a1, ()) = m0 N a0 a1 := by kernel_rfl
theorem G_ok (N : Nat) : GamOK Try.prog (G N) := gam_ok (l := [(60, [], laws_eqEntryS.sp N), (18, [], laws_eqIntS.sp N)]) (⟨laws_eqEntryS.snd N, laws_eqIntS.snd N, trivial⟩)
theorem snd (N : Nat) : Sound Try.prog E 17 (sp N) :=
  Mir.sound T_OK (G_ok N) mixed Try.func17 (c := code) (by kernel_rfl) (by kernel_rfl) (sp N) (Nat.le_of_ble_eq_true (by kernel_rfl)) live [] (by
    rintro ⟨a0, a1, _⟩ r h
    exact ⟨N, 2, ((run N _ a0 a1).trans rfl).trans h⟩)
end laws_eqNode
namespace laws_eqMessage
noncomputable def code : Code := Try.f82.body.getD .skip
abbrev live : Live := []
noncomputable def G (N : Nat) : Ctx E := gam [(60, [], laws_eqEntryS.sp N)]
noncomputable def m0 (N : Nat) (a0 : Message) (a1 : Message) : Option R :=
  bif (a0.Kind != a1.Kind) then
    some false
  else
  bif (a0.From != a1.From) then
    some false
  else
  bif (a0.To != a1.To) then
    some false
  else
  bif (a0.Term != a1.Term) then
    some false
  else
  bif (a0.Index != a1.Index) then
    some false
  else
  bif (a0.LogTerm != a1.LogTerm) then
    some false
  else
  bif (a0.Commit != a1.Commit) then
    some false
  else
  ob (laws_eqEntryS.m N a0.Entries a1.Entries) fun y1 =>
  bif (!y1) then
    some false
  else
  bif (!(a0.Ok == a1.Ok)) then
    some false
  else
  some true
theorem run (N : Nat) (o0 : Orc E R) (a0 : Message) (a1 : Message) : runF T (G N) live [] Try.f82 code (sp N) o0 (a0, a1, ()) = m0 N a0 a1 := by kernel_rfl
theorem G_ok (N : Nat) : GamOK Try.prog (G N) := gam_ok (l := [(60, [], laws_eqEntryS.sp N)]) (⟨laws_eqEntryS.snd N, trivial⟩)
theorem snd (N : Nat) : Sound Try.prog E 82 (sp N) :=
  Mir.sound T_OK (G_ok N) mixed Try.func82 (c := code) (by kernel_rfl) (by kernel_rfl) (sp N) (Nat.le_of_ble_eq_true (by kernel_rfl)) live [] (by
    rintro ⟨a0, a1, _⟩ r h
    exact ⟨N, 2, ((run N _ a0 a1).trans rfl).trans h⟩)
end laws_eqMessage
namespace laws_eqMessageS
noncomputable def code : Code := Try.f35.body.getD .skip
abbrev live : Live := [(4, [0, 1, 5])]
noncomputable def G (N : Nat) : Ctx E := gam [(82, [], laws_eqMessage.sp N)]
noncomputable def loop4 : Code := codeAt code [1, 1, 0, 1, 0]
noncomputable def body4 : Code := codeAt loop4 [0]
noncomputable def K4 (N : Nat) (o0 : Orc E R) : KT E R := kAt T (G N) live [] o0 code [1, 1, 0, 1, 0] (kfin T Try.f35 (sp N))
noncomputable def St4 (a0 : List Message) (a1 : List Message) : Int → St E
  | v2 => { ρ := [(0, .c (.at (.ro 102 (.st 102) a0))), (1, .c (.at (.ro 102 (.st 102) a1))), (5, .c (.at (.int .i64 v2)))], H := [], nx := 0, n := 27, pin := [] }
noncomputable def m0 (N : Nat) (a0 : List Message) (a1 : List Message) (lp4 : Int → Option R) : Option R :=
  bif ((a0.length : Int) != (a1.length : Int)) then
    some false
  else
  lp4 (0:Int)
theorem run (N : Nat) (o0 : Orc E R) (a0 : List Message) (a1 : List Message) : runF T (G N) live [] Try.f35 code (sp N) o0 (a0, a1, ()) = m0 N a0 a1 (fun a => o0 loop4 (K4 N o0) (St4 a0 a1 a)) := by kernel_rfl
theorem body4_0 (N : Nat) (o0 : Orc E R) (o1 : Orc E R) (q1 : St E → Option R) (a0 : List Message) (a1 : List Message) (v2 : Int) : runA T (G N) live [] o1 body4 (St4 a0 a1 v2) (kloop [0, 1, 5] q1 (K4 N o0)) = step4 N a0 a1 (fun a => q1 (St4 a0 a1 a)) v2 := by kernel_rfl
theorem lp4_eq (N : Nat) (a0 : List Message) (a1 : List Message) (a : Int) : (orc T (G N) live [] N 2) loop4 (K4 N (orc T (G N) live [] N 2)) (St4 a0 a1 a) = lp4 N a0 a1 a :=
  (orc_loop (b := body4) (live := [0, 1, 5]) (by kernel_rfl)).trans (iter_eq (St4 a0 a1) _ _ (fun q1 a => by
    have hc := congrFun (congrFun (rfl : (step4 N a0 a1) = (step4 N a0 a1)) (fun a => q1 (St4 a0 a1 a))) a
    exact (body4_0 N (orc T (G N) live [] N 2) (orc T (G N) live [] N 1) q1 a0 a1 a).trans hc) N a)
theorem G_ok (N : Nat) : GamOK Try.prog (G N) := gam_ok (l := [(82, [], laws_eqMessage.sp N)]) (⟨laws_eqMessage.snd N, trivial⟩)
theorem snd (N : Nat) : Sound Try.prog E 35 (sp N) :=
  Mir.sound T_OK (G_ok N) mixed Try.func35 (c := code) (by kernel_rfl) (by kernel_rfl) (sp N) (Nat.le_of_ble_eq_true (by kernel_rfl)) live [] (by
    rintro ⟨a0, a1, _⟩ r h
    exact ⟨N, 2, ((run N _ a0 a1).trans (congrArg (m0 N a0 a1) (funext fun a => lp4_eq N a0 a1 a))).trans h⟩)
end laws_eqMessageS
namespace laws_markText
noncomputable def code : Code := Try.f119.body.getD .skip
abbrev live : Live := [(4, [0, 3])]
noncomputable def G (N : Nat) : Ctx E := gam []
noncomputable def loop4 : Code := codeAt code [1, 1, 1, 0, 0]
noncomputable def body4 : Code := codeAt loop4 [0]
noncomputable def K4 (N : Nat) (o0 : Orc E R) : KT E R := kAt T (G N) live [] o0 code [1, 1, 1, 0, 0] (kfin T Try.f119 (sp N))
noncomputable def St4 (a0 : Int) : (Int × ByteArray) → St E
  | (v0, v1) => { ρ := [(0, .c (.at (.int .i64 v0))), (3, .c (.at (.str v1)))], H := [], nx := 0, n := 20, pin := [] }
noncomputable def m0 (N : Nat) (a0 : Int) (lp4 : Int × ByteArray → Option R) : Option R :=
  bif (decide (a0 ≤ (0:Int))) then
    some (⟨#[109, 48]⟩ : ByteArray)
  else
  lp4 (a0, ByteArray.empty)
theorem run (N : Nat) (o0 : Orc E R) (a0 : Int) : runF T (G N) live [] Try.f119 code (sp N) o0 (a0, ()) = m0 N a0 (fun a => o0 loop4 (K4 N o0) (St4 a0 a)) := by kernel_rfl
theorem body4_0 (N : Nat) (o0 : Orc E R) (o1 : Orc E R) (q1 : St E → Option R) (a0 : Int) (v0 : Int) (v1 : ByteArray) : runA T (G N) live [] o1 body4 (St4 a0 (v0, v1)) (kloop [0, 3] q1 (K4 N o0)) = step4 N a0 (fun a => q1 (St4 a0 a)) (v0, v1) := by kernel_rfl
theorem lp4_eq (N : Nat) (a0 : Int) (a : Int × ByteArray) : (orc T (G N) live [] N 2) loop4 (K4 N (orc T (G N) live [] N 2)) (St4 a0 a) = lp4 N a0 a :=
  (orc_loop (b := body4) (live := [0, 3]) (by kernel_rfl)).trans (iter_eq (St4 a0) _ _ (fun q1 a => by
    have hc := congrFun (congrFun (rfl : (step4 N a0) = (step4 N a0)) (fun a => q1 (St4 a0 a))) a
    obtain ⟨u0, u1⟩ := a
    exact (body4_0 N (orc T (G N) live [] N 2) (orc T (G N) live [] N 1) q1 a0 u0 u1).trans hc) N a)
theorem G_ok (N : Nat) : GamOK Try.prog (G N) := gam_ok (l := []) (trivial)
theorem snd (N : Nat) : Sound Try.prog E 119 (sp N) :=
  Mir.sound T_OK (G_ok N) mixed Try.func119 (c := code) (by kernel_rfl) (by kernel_rfl) (sp N) (Nat.le_of_ble_eq_true (by kernel_rfl)) live [] (by
    rintro ⟨a0, _⟩ r h
    exact ⟨N, 2, ((run N _ a0).trans (congrArg (m0 N a0) (funext fun a => lp4_eq N a0 a))).trans h⟩)
end laws_markText
namespace laws_markEntryS
noncomputable def code : Code := Try.f61.body.getD .skip
abbrev live : Live := [(2, [0, 1, 5])]
noncomputable def G (N : Nat) : Ctx E := gam [(119, [], laws_markText.sp N)]
noncomputable def loop2 : Code := codeAt code [1, 0, 1, 0]
noncomputable def body2 : Code := codeAt loop2 [0]
noncomputable def K2 (N : Nat) (o0 : Orc E R) : KT E R := kAt T (G N) live [] o0 code [1, 0, 1, 0] (kfin T Try.f61 (sp N))
noncomputable def St2 (a0 : List Entry) (a1 : Int) : (Int × Int × (List Entry)) → St E
  | (v0, v1, v2) => { ρ := [(0, .c (.at (.own 0))), (1, .c (.at (.int .i64 v0))), (5, .c (.at (.int .i64 v1)))], H := [(0, .row 96 (.st 96) v2 false)], nx := 1, n := 35, pin := [0] }
noncomputable def m0 (N : Nat) (a0 : List Entry) (a1 : Int) (lp2 : Int × Int × (List Entry) → Option R) : Option R :=
  lp2 (a1, (0:Int), a0)
theorem run (N : Nat) (o0 : Orc E R) (a0 : List Entry) (a1 : Int) : runF T (G N) live [] Try.f61 code (sp N) o0 (a0, a1, ()) = m0 N a0 a1 (fun a => o0 loop2 (K2 N o0) (St2 a0 a1 a)) := by kernel_rfl
theorem body2_0 (N : Nat) (o0 : Orc E R) (o1 : Orc E R) (q1 : St E → Option R) (a0 : List Entry) (a1 : Int) (v0 : Int) (v1 : Int) (v2 : List Entry) : runA T (G N) live [] o1 body2 (St2 a0 a1 (v0, v1, v2)) (kloop [0, 1, 5] q1 (K2 N o0)) = step2 N a0 a1 (fun a => q1 (St2 a0 a1 a)) (v0, v1, v2) := by kernel_rfl
theorem lp2_eq (N : Nat) (a0 : List Entry) (a1 : Int) (a : Int × Int × (List Entry)) : (orc T (G N) live [] N 2) loop2 (K2 N (orc T (G N) live [] N 2)) (St2 a0 a1 a) = lp2 N a0 a1 a :=
  (orc_loop (b := body2) (live := [0, 1, 5]) (by kernel_rfl)).trans (iter_eq (St2 a0 a1) _ _ (fun q1 a => by
    have hc := congrFun (congrFun (rfl : (step2 N a0 a1) = (step2 N a0 a1)) (fun a => q1 (St2 a0 a1 a))) a
    obtain ⟨u0, u1, u2⟩ := a
    exact (body2_0 N (orc T (G N) live [] N 2) (orc T (G N) live [] N 1) q1 a0 a1 u0 u1 u2).trans hc) N a)
theorem G_ok (N : Nat) : GamOK Try.prog (G N) := gam_ok (l := [(119, [], laws_markText.sp N)]) (⟨laws_markText.snd N, trivial⟩)
theorem snd (N : Nat) : Sound Try.prog E 61 (sp N) :=
  Mir.sound T_OK (G_ok N) mixed Try.func61 (c := code) (by kernel_rfl) (by kernel_rfl) (sp N) (Nat.le_of_ble_eq_true (by kernel_rfl)) live [] (by
    rintro ⟨a0, a1, _⟩ r h
    exact ⟨N, 2, ((run N _ a0 a1).trans (congrArg (m0 N a0 a1) (funext fun a => lp2_eq N a0 a1 a))).trans h⟩)
end laws_markEntryS
namespace laws_markIntS
noncomputable def code : Code := Try.f19.body.getD .skip
abbrev live : Live := [(2, [0, 1, 5])]
noncomputable def G (N : Nat) : Ctx E := gam []
noncomputable def loop2 : Code := codeAt code [1, 0, 1, 0]
noncomputable def body2 : Code := codeAt loop2 [0]
noncomputable def K2 (N : Nat) (o0 : Orc E R) : KT E R := kAt T (G N) live [] o0 code [1, 0, 1, 0] (kfin T Try.f19 (sp N))
noncomputable def St2 (a0 : List Int) (a1 : Int) : (Int × Int × (List Int)) → St E
  | (v0, v1, v2) => { ρ := [(0, .c (.at (.own 0))), (1, .c (.at (.int .i64 v0))), (5, .c (.at (.int .i64 v1)))], H := [(0, .row 3 (.int .i64) v2 false)], nx := 1, n := 19, pin := [0] }
noncomputable def m0 (N : Nat) (a0 : List Int) (a1 : Int) (lp2 : Int × Int × (List Int) → Option R) : Option R :=
  lp2 (a1, (0:Int), a0)
theorem run (N : Nat) (o0 : Orc E R) (a0 : List Int) (a1 : Int) : runF T (G N) live [] Try.f19 code (sp N) o0 (a0, a1, ()) = m0 N a0 a1 (fun a => o0 loop2 (K2 N o0) (St2 a0 a1 a)) := by kernel_rfl
theorem body2_0 (N : Nat) (o0 : Orc E R) (o1 : Orc E R) (q1 : St E → Option R) (a0 : List Int) (a1 : Int) (v0 : Int) (v1 : Int) (v2 : List Int) : runA T (G N) live [] o1 body2 (St2 a0 a1 (v0, v1, v2)) (kloop [0, 1, 5] q1 (K2 N o0)) = step2 N a0 a1 (fun a => q1 (St2 a0 a1 a)) (v0, v1, v2) := by kernel_rfl
theorem lp2_eq (N : Nat) (a0 : List Int) (a1 : Int) (a : Int × Int × (List Int)) : (orc T (G N) live [] N 2) loop2 (K2 N (orc T (G N) live [] N 2)) (St2 a0 a1 a) = lp2 N a0 a1 a :=
  (orc_loop (b := body2) (live := [0, 1, 5]) (by kernel_rfl)).trans (iter_eq (St2 a0 a1) _ _ (fun q1 a => by
    have hc := congrFun (congrFun (rfl : (step2 N a0 a1) = (step2 N a0 a1)) (fun a => q1 (St2 a0 a1 a))) a
    obtain ⟨u0, u1, u2⟩ := a
    exact (body2_0 N (orc T (G N) live [] N 2) (orc T (G N) live [] N 1) q1 a0 a1 u0 u1 u2).trans hc) N a)
theorem G_ok (N : Nat) : GamOK Try.prog (G N) := gam_ok (l := []) (trivial)
theorem snd (N : Nat) : Sound Try.prog E 19 (sp N) :=
  Mir.sound T_OK (G_ok N) mixed Try.func19 (c := code) (by kernel_rfl) (by kernel_rfl) (sp N) (Nat.le_of_ble_eq_true (by kernel_rfl)) live [] (by
    rintro ⟨a0, a1, _⟩ r h
    exact ⟨N, 2, ((run N _ a0 a1).trans (congrArg (m0 N a0 a1) (funext fun a => lp2_eq N a0 a1 a))).trans h⟩)
end laws_markIntS
namespace laws_markNode
noncomputable def code : Code := Try.f20.body.getD .skip
abbrev live : Live := []
noncomputable def G (N : Nat) : Ctx E := gam [(61, [], laws_markEntryS.sp N), (19, [], laws_markIntS.sp N)]
noncomputable def m0 (N : Nat) (a0 : Node) (a1 : Int) : Option R :=
  ob (laws_markEntryS.m N a0.Log a1) fun y1 =>
  ob (laws_markIntS.m N a0.Start y1.1) fun y2 =>
  ob (laws_markIntS.m N a0.Votes y2.1) fun y3 =>
  ob (laws_markIntS.m N a0.Next y3.1) fun y4 =>
  ob (laws_markIntS.m N a0.Match y4.1) fun y5 =>
  some (y5.1, (Node.mk a0.Id a0.Term a0.Vote y1.2 y2.2 a0.Role y3.2 y4.2 y5.2 a0.Commit a0.Elapsed a0.Wait a0.Up))
theorem run (N : Nat) (o0 : Orc E R) (a0 : Node) (a1 : Int) : runF T (G N) live [] Try.f20 code (sp N) o0 (a0, a1, ()) = m0 N a0 a1 := by kernel_rfl
theorem G_ok (N : Nat) : GamOK Try.prog (G N) := gam_ok (l := [(61, [], laws_markEntryS.sp N), (19, [], laws_markIntS.sp N)]) (⟨laws_markEntryS.snd N, laws_markIntS.snd N, trivial⟩)
theorem snd (N : Nat) : Sound Try.prog E 20 (sp N) :=
  Mir.sound T_OK (G_ok N) mixed Try.func20 (c := code) (by kernel_rfl) (by kernel_rfl) (sp N) (Nat.le_of_ble_eq_true (by kernel_rfl)) live [] (by
    rintro ⟨a0, a1, _⟩ r h
    exact ⟨N, 2, ((run N _ a0 a1).trans rfl).trans h⟩)
end laws_markNode
namespace laws_markMessageS
noncomputable def code : Code := Try.f36.body.getD .skip
abbrev live : Live := [(2, [0, 1, 5])]
noncomputable def G (N : Nat) : Ctx E := gam [(61, [], laws_markEntryS.sp N)]
noncomputable def loop2 : Code := codeAt code [1, 0, 1, 0]
noncomputable def body2 : Code := codeAt loop2 [0]
noncomputable def K2 (N : Nat) (o0 : Orc E R) : KT E R := kAt TD (G N) live [] o0 code [1, 0, 1, 0] (kfin TD Try.f36 (sp N))
noncomputable def St2 (a0 : List Message) (a1 : Int) : (Int × Int × (List Message)) → St E
  | (v0, v1, v2) => { ρ := [(0, .c (.at (.own 0))), (1, .c (.at (.int .i64 v0))), (5, .c (.at (.int .i64 v1)))], H := [(0, .drow 102 (.st 102) v2 1), (1, .hdr)], nx := 2, n := 78, pin := [0] }
noncomputable def m0 (N : Nat) (a0 : List Message) (a1 : Int) (lp2 : Int × Int × (List Message) → Option R) : Option R :=
  lp2 (a1, (0:Int), a0)
theorem run (N : Nat) (o0 : Orc E R) (a0 : List Message) (a1 : Int) : runF TD (G N) live [] Try.f36 code (sp N) o0 (a0, a1, ()) = m0 N a0 a1 (fun a => o0 loop2 (K2 N o0) (St2 a0 a1 a)) := by kernel_rfl
theorem body2_0 (N : Nat) (o0 : Orc E R) (o1 : Orc E R) (q1 : St E → Option R) (a0 : List Message) (a1 : Int) (v0 : Int) (v1 : Int) (v2 : List Message) : runA TD (G N) live [] o1 body2 (St2 a0 a1 (v0, v1, v2)) (kloop [0, 1, 5] q1 (K2 N o0)) = step2 N a0 a1 (fun a => q1 (St2 a0 a1 a)) (v0, v1, v2) := by kernel_rfl
theorem lp2_eq (N : Nat) (a0 : List Message) (a1 : Int) (a : Int × Int × (List Message)) : (orc TD (G N) live [] N 2) loop2 (K2 N (orc TD (G N) live [] N 2)) (St2 a0 a1 a) = lp2 N a0 a1 a :=
  (orc_loop (b := body2) (live := [0, 1, 5]) (by kernel_rfl)).trans (iter_eq (St2 a0 a1) _ _ (fun q1 a => by
    have hc := congrFun (congrFun (rfl : (step2 N a0 a1) = (step2 N a0 a1)) (fun a => q1 (St2 a0 a1 a))) a
    obtain ⟨u0, u1, u2⟩ := a
    exact (body2_0 N (orc TD (G N) live [] N 2) (orc TD (G N) live [] N 1) q1 a0 a1 u0 u1 u2).trans hc) N a)
theorem G_ok (N : Nat) : GamOK Try.prog (G N) := gam_ok (l := [(61, [], laws_markEntryS.sp N)]) (⟨laws_markEntryS.snd N, trivial⟩)
theorem snd (N : Nat) : Sound Try.prog E 36 (sp N) :=
  Mir.sound TD_OK (G_ok N) mixed Try.func36 (c := code) (by kernel_rfl) (by kernel_rfl) (sp N) (Nat.le_of_ble_eq_true (by kernel_rfl)) live [] (by
    rintro ⟨a0, a1, _⟩ r h
    exact ⟨N, 2, ((run N _ a0 a1).trans (congrArg (m0 N a0 a1) (funext fun a => lp2_eq N a0 a1 a))).trans h⟩)
end laws_markMessageS
namespace laws_heldEntryS
noncomputable def code : Code := Try.f62.body.getD .skip
abbrev live : Live := [(2, [0, 1, 5])]
noncomputable def G (N : Nat) : Ctx E := gam [(119, [], laws_markText.sp N)]
noncomputable def loop2 : Code := codeAt code [1, 0, 1, 0]
noncomputable def body2 : Code := codeAt loop2 [0]
noncomputable def K2 (N : Nat) (o0 : Orc E R) : KT E R := kAt T (G N) live [] o0 code [1, 0, 1, 0] (kfin T Try.f62 (sp N))
noncomputable def St2 (a0 : List Entry) (a1 : Int) : (Int × Int) → St E
  | (v1, v2) => { ρ := [(0, .c (.at (.ro 96 (.st 96) a0))), (1, .c (.at (.int .i64 v1))), (5, .c (.at (.int .i64 v2)))], H := [], nx := 0, n := 41, pin := [] }
noncomputable def m0 (N : Nat) (a0 : List Entry) (a1 : Int) (lp2 : Int × Int → Option R) : Option R :=
  lp2 (a1, (0:Int))
theorem run (N : Nat) (o0 : Orc E R) (a0 : List Entry) (a1 : Int) : runF T (G N) live [] Try.f62 code (sp N) o0 (a0, a1, ()) = m0 N a0 a1 (fun a => o0 loop2 (K2 N o0) (St2 a0 a1 a)) := by kernel_rfl
theorem body2_0 (N : Nat) (o0 : Orc E R) (o1 : Orc E R) (q1 : St E → Option R) (a0 : List Entry) (a1 : Int) (v1 : Int) (v2 : Int) : runA T (G N) live [] o1 body2 (St2 a0 a1 (v1, v2)) (kloop [0, 1, 5] q1 (K2 N o0)) = step2 N a0 a1 (fun a => q1 (St2 a0 a1 a)) (v1, v2) := by kernel_rfl
theorem lp2_eq (N : Nat) (a0 : List Entry) (a1 : Int) (a : Int × Int) : (orc T (G N) live [] N 2) loop2 (K2 N (orc T (G N) live [] N 2)) (St2 a0 a1 a) = lp2 N a0 a1 a :=
  (orc_loop (b := body2) (live := [0, 1, 5]) (by kernel_rfl)).trans (iter_eq (St2 a0 a1) _ _ (fun q1 a => by
    have hc := congrFun (congrFun (rfl : (step2 N a0 a1) = (step2 N a0 a1)) (fun a => q1 (St2 a0 a1 a))) a
    obtain ⟨u0, u1⟩ := a
    exact (body2_0 N (orc T (G N) live [] N 2) (orc T (G N) live [] N 1) q1 a0 a1 u0 u1).trans hc) N a)
theorem G_ok (N : Nat) : GamOK Try.prog (G N) := gam_ok (l := [(119, [], laws_markText.sp N)]) (⟨laws_markText.snd N, trivial⟩)
theorem snd (N : Nat) : Sound Try.prog E 62 (sp N) :=
  Mir.sound T_OK (G_ok N) mixed Try.func62 (c := code) (by kernel_rfl) (by kernel_rfl) (sp N) (Nat.le_of_ble_eq_true (by kernel_rfl)) live [] (by
    rintro ⟨a0, a1, _⟩ r h
    exact ⟨N, 2, ((run N _ a0 a1).trans (congrArg (m0 N a0 a1) (funext fun a => lp2_eq N a0 a1 a))).trans h⟩)
end laws_heldEntryS
namespace laws_heldIntS
noncomputable def code : Code := Try.f30.body.getD .skip
abbrev live : Live := [(2, [0, 1, 5])]
noncomputable def G (N : Nat) : Ctx E := gam []
noncomputable def loop2 : Code := codeAt code [1, 0, 1, 0]
noncomputable def body2 : Code := codeAt loop2 [0]
noncomputable def K2 (N : Nat) (o0 : Orc E R) : KT E R := kAt T (G N) live [] o0 code [1, 0, 1, 0] (kfin T Try.f30 (sp N))
noncomputable def St2 (a0 : List Int) (a1 : Int) : (Int × Int) → St E
  | (v1, v2) => { ρ := [(0, .c (.at (.ro 3 (.int .i64) a0))), (1, .c (.at (.int .i64 v1))), (5, .c (.at (.int .i64 v2)))], H := [], nx := 0, n := 21, pin := [] }
noncomputable def m0 (N : Nat) (a0 : List Int) (a1 : Int) (lp2 : Int × Int → Option R) : Option R :=
  lp2 (a1, (0:Int))
theorem run (N : Nat) (o0 : Orc E R) (a0 : List Int) (a1 : Int) : runF T (G N) live [] Try.f30 code (sp N) o0 (a0, a1, ()) = m0 N a0 a1 (fun a => o0 loop2 (K2 N o0) (St2 a0 a1 a)) := by kernel_rfl
theorem body2_0 (N : Nat) (o0 : Orc E R) (o1 : Orc E R) (q1 : St E → Option R) (a0 : List Int) (a1 : Int) (v1 : Int) (v2 : Int) : runA T (G N) live [] o1 body2 (St2 a0 a1 (v1, v2)) (kloop [0, 1, 5] q1 (K2 N o0)) = step2 N a0 a1 (fun a => q1 (St2 a0 a1 a)) (v1, v2) := by kernel_rfl
theorem lp2_eq (N : Nat) (a0 : List Int) (a1 : Int) (a : Int × Int) : (orc T (G N) live [] N 2) loop2 (K2 N (orc T (G N) live [] N 2)) (St2 a0 a1 a) = lp2 N a0 a1 a :=
  (orc_loop (b := body2) (live := [0, 1, 5]) (by kernel_rfl)).trans (iter_eq (St2 a0 a1) _ _ (fun q1 a => by
    have hc := congrFun (congrFun (rfl : (step2 N a0 a1) = (step2 N a0 a1)) (fun a => q1 (St2 a0 a1 a))) a
    obtain ⟨u0, u1⟩ := a
    exact (body2_0 N (orc T (G N) live [] N 2) (orc T (G N) live [] N 1) q1 a0 a1 u0 u1).trans hc) N a)
theorem G_ok (N : Nat) : GamOK Try.prog (G N) := gam_ok (l := []) (trivial)
theorem snd (N : Nat) : Sound Try.prog E 30 (sp N) :=
  Mir.sound T_OK (G_ok N) mixed Try.func30 (c := code) (by kernel_rfl) (by kernel_rfl) (sp N) (Nat.le_of_ble_eq_true (by kernel_rfl)) live [] (by
    rintro ⟨a0, a1, _⟩ r h
    exact ⟨N, 2, ((run N _ a0 a1).trans (congrArg (m0 N a0 a1) (funext fun a => lp2_eq N a0 a1 a))).trans h⟩)
end laws_heldIntS
namespace laws_heldNode
noncomputable def code : Code := Try.f21.body.getD .skip
abbrev live : Live := []
noncomputable def G (N : Nat) : Ctx E := gam [(62, [], laws_heldEntryS.sp N), (30, [], laws_heldIntS.sp N)]
noncomputable def m0 (N : Nat) (a0 : Node) (a1 : Int) : Option R :=
  ob (laws_heldEntryS.m N a0.Log a1) fun y1 =>
  bif (decide (y1 < (0:Int))) then
    some (-1:Int)
  else
  ob (laws_heldIntS.m N a0.Start y1) fun y2 =>
  bif (decide (y2 < (0:Int))) then
    some (-1:Int)
  else
  ob (laws_heldIntS.m N a0.Votes y2) fun y3 =>
  bif (decide (y3 < (0:Int))) then
    some (-1:Int)
  else
  ob (laws_heldIntS.m N a0.Next y3) fun y4 =>
  bif (decide (y4 < (0:Int))) then
    some (-1:Int)
  else
  ob (laws_heldIntS.m N a0.Match y4) fun y5 =>
  bif (decide (y5 < (0:Int))) then
    some (-1:Int)
  else
  some y5
theorem run (N : Nat) (o0 : Orc E R) (a0 : Node) (a1 : Int) : runF T (G N) live [] Try.f21 code (sp N) o0 (a0, a1, ()) = m0 N a0 a1 := by kernel_rfl
theorem G_ok (N : Nat) : GamOK Try.prog (G N) := gam_ok (l := [(62, [], laws_heldEntryS.sp N), (30, [], laws_heldIntS.sp N)]) (⟨laws_heldEntryS.snd N, laws_heldIntS.snd N, trivial⟩)
theorem snd (N : Nat) : Sound Try.prog E 21 (sp N) :=
  Mir.sound T_OK (G_ok N) mixed Try.func21 (c := code) (by kernel_rfl) (by kernel_rfl) (sp N) (Nat.le_of_ble_eq_true (by kernel_rfl)) live [] (by
    rintro ⟨a0, a1, _⟩ r h
    exact ⟨N, 2, ((run N _ a0 a1).trans rfl).trans h⟩)
end laws_heldNode
namespace laws_heldMessageS
noncomputable def code : Code := Try.f37.body.getD .skip
abbrev live : Live := [(2, [0, 1, 5])]
noncomputable def G (N : Nat) : Ctx E := gam [(62, [], laws_heldEntryS.sp N)]
noncomputable def loop2 : Code := codeAt code [1, 0, 1, 0]
noncomputable def body2 : Code := codeAt loop2 [0]
noncomputable def K2 (N : Nat) (o0 : Orc E R) : KT E R := kAt T (G N) live [] o0 code [1, 0, 1, 0] (kfin T Try.f37 (sp N))
noncomputable def St2 (a0 : List Message) (a1 : Int) : (Int × Int) → St E
  | (v1, v2) => { ρ := [(0, .c (.at (.ro 102 (.st 102) a0))), (1, .c (.at (.int .i64 v1))), (5, .c (.at (.int .i64 v2)))], H := [], nx := 0, n := 96, pin := [] }
noncomputable def m0 (N : Nat) (a0 : List Message) (a1 : Int) (lp2 : Int × Int → Option R) : Option R :=
  lp2 (a1, (0:Int))
theorem run (N : Nat) (o0 : Orc E R) (a0 : List Message) (a1 : Int) : runF T (G N) live [] Try.f37 code (sp N) o0 (a0, a1, ()) = m0 N a0 a1 (fun a => o0 loop2 (K2 N o0) (St2 a0 a1 a)) := by kernel_rfl
theorem body2_0 (N : Nat) (o0 : Orc E R) (o1 : Orc E R) (q1 : St E → Option R) (a0 : List Message) (a1 : Int) (v1 : Int) (v2 : Int) : runA T (G N) live [] o1 body2 (St2 a0 a1 (v1, v2)) (kloop [0, 1, 5] q1 (K2 N o0)) = step2 N a0 a1 (fun a => q1 (St2 a0 a1 a)) (v1, v2) := by kernel_rfl
theorem lp2_eq (N : Nat) (a0 : List Message) (a1 : Int) (a : Int × Int) : (orc T (G N) live [] N 2) loop2 (K2 N (orc T (G N) live [] N 2)) (St2 a0 a1 a) = lp2 N a0 a1 a :=
  (orc_loop (b := body2) (live := [0, 1, 5]) (by kernel_rfl)).trans (iter_eq (St2 a0 a1) _ _ (fun q1 a => by
    have hc := congrFun (congrFun (rfl : (step2 N a0 a1) = (step2 N a0 a1)) (fun a => q1 (St2 a0 a1 a))) a
    obtain ⟨u0, u1⟩ := a
    exact (body2_0 N (orc T (G N) live [] N 2) (orc T (G N) live [] N 1) q1 a0 a1 u0 u1).trans hc) N a)
theorem G_ok (N : Nat) : GamOK Try.prog (G N) := gam_ok (l := [(62, [], laws_heldEntryS.sp N)]) (⟨laws_heldEntryS.snd N, trivial⟩)
theorem snd (N : Nat) : Sound Try.prog E 37 (sp N) :=
  Mir.sound T_OK (G_ok N) mixed Try.func37 (c := code) (by kernel_rfl) (by kernel_rfl) (sp N) (Nat.le_of_ble_eq_true (by kernel_rfl)) live [] (by
    rintro ⟨a0, a1, _⟩ r h
    exact ⟨N, 2, ((run N _ a0 a1).trans (congrArg (m0 N a0 a1) (funext fun a => lp2_eq N a0 a1 a))).trans h⟩)
end laws_heldMessageS
namespace laws_FnExactNodePropose
noncomputable def code : Code := Try.f8.body.getD .skip
abbrev live : Live := []
noncomputable def G (N : Nat) : Ctx E := gam [(22, [], laws_szNode.sp N), (24, [], laws_toNode.sp N), (33, [], spec_NodePropose.sp N), (34, [], impl_NodePropose.sp N), (17, [], laws_eqNode.sp N), (35, [], laws_eqMessageS.sp N), (20, [], laws_markNode.sp N), (36, [], laws_markMessageS.sp N), (21, [], laws_heldNode.sp N), (37, [], laws_heldMessageS.sp N)]
noncomputable def m0 (N : Nat) (a0 : Node) (a1 : ByteArray) : Option R :=
  bif (decide ((a1.size : Int) > (1048576:Int))) then
    some true
  else
  ob (laws_szNode.m N (Node.mk a0.Id a0.Term a0.Vote a0.Log a0.Start a0.Role a0.Votes a0.Next a0.Match a0.Commit a0.Elapsed a0.Wait a0.Up) (1048576:Int)) fun y1 =>
  bif (decide (y1 < (0:Int))) then
    some true
  else
  ob (laws_toNode.m N (Node.mk a0.Id a0.Term a0.Vote a0.Log a0.Start a0.Role a0.Votes a0.Next a0.Match a0.Commit a0.Elapsed a0.Wait a0.Up)) fun y2 =>
  ob (spec_NodePropose.m N (Node.mk y2.Id y2.Term y2.Vote y2.Log y2.Start y2.Role y2.Votes y2.Next y2.Match y2.Commit y2.Elapsed y2.Wait y2.Up) a1) fun y3 =>
  ob (laws_toNode.m N a0) fun y4 =>
  ob (impl_NodePropose.m N y4 a1) fun y5 =>
  ob (laws_eqNode.m N y5.1 y3.1) fun y6 =>
  bif (!y6) then
    some false
  else
  ob (laws_eqMessageS.m N y5.2.1 y3.2.1) fun y7 =>
  bif (bif false then true else (!y7)) then
    some false
  else
  bif (bif false then true else (y5.2.2 != y3.2.2)) then
    some false
  else
  ob (laws_toNode.m N (Node.mk a0.Id a0.Term a0.Vote a0.Log a0.Start a0.Role a0.Votes a0.Next a0.Match a0.Commit a0.Elapsed a0.Wait a0.Up)) fun y8 =>
  ob (laws_eqNode.m N y4 y8) fun y9 =>
  bif (!y9) then
    some false
  else
  ob (laws_markNode.m N y4 (1:Int)) fun y10 =>
  bif (decide (y10.1 < (0:Int))) then
    some false
  else
  ob (laws_eqNode.m N y5.1 y3.1) fun y11 =>
  bif (bif false then true else (!y11)) then
    some false
  else
  ob (laws_eqMessageS.m N y5.2.1 y3.2.1) fun y12 =>
  bif (bif false then true else (!y12)) then
    some false
  else
  bif (bif false then true else (y5.2.2 != y3.2.2)) then
    some false
  else
  ob (laws_markNode.m N y5.1 (1:Int)) fun y13 =>
  ob (laws_markMessageS.m N y5.2.1 y13.1) fun y14 =>
  ob (laws_heldNode.m N (Node.mk y5.1.Id y5.1.Term y5.1.Vote y13.2.Log y13.2.Start y5.1.Role y13.2.Votes y13.2.Next y13.2.Match y5.1.Commit y5.1.Elapsed y5.1.Wait y5.1.Up) (1:Int)) fun y15 =>
  bif (decide (y15 < (0:Int))) then
    some false
  else
  ob (laws_heldMessageS.m N y14.2 y15) fun y16 =>
  bif (decide (y16 < (0:Int))) then
    some false
  else
  bif (y16 != y14.1) then
    some false
  else
  ob (laws_toNode.m N a0) fun y17 =>
  ob (impl_NodePropose.m N y17 a1) fun y18 =>
  ob (laws_eqNode.m N y18.1 y3.1) fun y19 =>
  bif (!y19) then
    some false
  else
  ob (laws_eqMessageS.m N y18.2.1 y3.2.1) fun y20 =>
  bif (bif false then true else (!y20)) then
    some false
  else
  bif (bif false then true else (y18.2.2 != y3.2.2)) then
    some false
  else
  ob (laws_heldNode.m N (Node.mk y5.1.Id y5.1.Term y5.1.Vote y13.2.Log y13.2.Start y5.1.Role y13.2.Votes y13.2.Next y13.2.Match y5.1.Commit y5.1.Elapsed y5.1.Wait y5.1.Up) (1:Int)) fun y21 =>
  bif (decide (y21 < (0:Int))) then
    some false
  else
  ob (laws_heldMessageS.m N y14.2 y21) fun y22 =>
  bif (decide (y22 < (0:Int))) then
    some false
  else
  bif (y22 != y14.1) then
    some false
  else
  some true
theorem run (N : Nat) (o0 : Orc E R) (a0 : Node) (a1 : ByteArray) : runF T (G N) live [] Try.f8 code (sp N) o0 (a0, a1, ()) = m0 N a0 a1 := by kernel_rfl
theorem G_ok (N : Nat) : GamOK Try.prog (G N) := gam_ok (l := [(22, [], laws_szNode.sp N), (24, [], laws_toNode.sp N), (33, [], spec_NodePropose.sp N), (34, [], impl_NodePropose.sp N), (17, [], laws_eqNode.sp N), (35, [], laws_eqMessageS.sp N), (20, [], laws_markNode.sp N), (36, [], laws_markMessageS.sp N), (21, [], laws_heldNode.sp N), (37, [], laws_heldMessageS.sp N)]) (⟨laws_szNode.snd N, laws_toNode.snd N, spec_NodePropose.snd N, impl_NodePropose.snd N, laws_eqNode.snd N, laws_eqMessageS.snd N, laws_markNode.snd N, laws_markMessageS.snd N, laws_heldNode.snd N, laws_heldMessageS.snd N, trivial⟩)
theorem snd (N : Nat) : Sound Try.prog E 8 (sp N) :=
  Mir.sound T_OK (G_ok N) mixed Try.func8 (c := code) (by kernel_rfl) (by kernel_rfl) (sp N) (Nat.le_of_ble_eq_true (by kernel_rfl)) live [] (by
    rintro ⟨a0, a1, _⟩ r h
    exact ⟨N, 2, ((run N _ a0 a1).trans rfl).trans h⟩)
end laws_FnExactNodePropose
end Mir.Y
