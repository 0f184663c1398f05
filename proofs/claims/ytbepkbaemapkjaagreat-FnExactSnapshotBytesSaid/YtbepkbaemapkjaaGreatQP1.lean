/- The models are what the functions do. -/
import Derived.Test.YtbepkbaemapkjaaGreatQM3
namespace Mir.Y
set_option linter.unusedVariables false
set_option maxRecDepth 10000
open Go Go.Proofs Mir
namespace laws_szStringS
noncomputable def code : Code := Tryz.f63.body.getD .skip
abbrev live : Live := [(5, [0, 1, 5])]
noncomputable def G (N : Nat) : Ctx E := gam []
noncomputable def loop5 : Code := codeAt code [1, 1, 1, 0, 1, 0]
noncomputable def body5 : Code := codeAt loop5 [0]
noncomputable def K5 (N : Nat) (o0 : Orc E R) : KT E R := kAt T (G N) live [] o0 code [1, 1, 1, 0, 1, 0] (kfin T Tryz.f63 (sp N))
noncomputable def St5 (a0 : List ByteArray) (a1 : Int) : (Int × Int) → St E
  | (v1, v2) => { ρ := [(0, .c (.at (.ro 9 .str a0))), (1, .c (.at (.int .i64 v1))), (5, .c (.at (.int .i64 v2)))], H := [], nx := 0, n := 28, pin := [] }
noncomputable def m0 (N : Nat) (a0 : List ByteArray) (a1 : Int) (lp5 : Int × Int → Option R) : Option R :=
  bif (decide ((w64 (a1 - (a0.length : Int))) < (0:Int))) then
    some (-1:Int)
  else
  lp5 ((w64 (a1 - (a0.length : Int))), (0:Int))
theorem run (N : Nat) (o0 : Orc E R) (a0 : List ByteArray) (a1 : Int) : runF T (G N) live [] Tryz.f63 code (sp N) o0 (a0, a1, ()) = m0 N a0 a1 (fun a => o0 loop5 (K5 N o0) (St5 a0 a1 a)) := by kernel_rfl
theorem body5_0 (N : Nat) (o0 : Orc E R) (o1 : Orc E R) (q1 : St E → Option R) (a0 : List ByteArray) (a1 : Int) (v1 : Int) (v2 : Int) : runA T (G N) live [] o1 body5 (St5 a0 a1 (v1, v2)) (kloop [0, 1, 5] q1 (K5 N o0)) = step5 N a0 a1 (fun a => q1 (St5 a0 a1 a)) (v1, v2) := by kernel_rfl
theorem lp5_eq (N : Nat) (a0 : List ByteArray) (a1 : Int) (a : Int × Int) : (orc T (G N) live [] N 2) loop5 (K5 N (orc T (G N) live [] N 2)) (St5 a0 a1 a) = lp5 N a0 a1 a :=
  (orc_loop (b := body5) (live := [0, 1, 5]) (by kernel_rfl)).trans (iter_eq (St5 a0 a1) _ _ (fun q1 a => by
    have hc := congrFun (congrFun (rfl : (step5 N a0 a1) = (step5 N a0 a1)) (fun a => q1 (St5 a0 a1 a))) a
    obtain ⟨u0, u1⟩ := a
    exact (body5_0 N (orc T (G N) live [] N 2) (orc T (G N) live [] N 1) q1 a0 a1 u0 u1).trans hc) N a)
theorem G_ok (N : Nat) : GamOK Tryz.prog (G N) := gam_ok (l := []) (trivial)
theorem snd (N : Nat) : Sound Tryz.prog E 63 (sp N) :=
  Mir.sound T_OK (G_ok N) mixed Tryz.func63 (c := code) (by kernel_rfl) (by kernel_rfl) (sp N) (Nat.le_of_ble_eq_true (by kernel_rfl)) live [] (by
    rintro ⟨a0, a1, _⟩ r h
    exact ⟨N, 2, ((run N _ a0 a1).trans (congrArg (m0 N a0 a1) (funext fun a => lp5_eq N a0 a1 a))).trans h⟩)
end laws_szStringS
namespace laws_szBranchS
noncomputable def code : Code := Tryz.f107.body.getD .skip
abbrev live : Live := [(5, [0, 1, 5])]
noncomputable def G (N : Nat) (x_laws_szBranch : Branch → Int → Option laws_szBranch.R) : Ctx E := gam [(64, [], laws_szBranch.spf x_laws_szBranch)]
noncomputable def loop5 : Code := codeAt code [1, 1, 1, 0, 1, 0]
noncomputable def body5 : Code := codeAt loop5 [0]
noncomputable def K5 (N : Nat) (x_laws_szBranch : Branch → Int → Option laws_szBranch.R) (o0 : Orc E R) : KT E R := kAt T (G N x_laws_szBranch) live [] o0 code [1, 1, 1, 0, 1, 0] (kfin T Tryz.f107 (sp N x_laws_szBranch))
noncomputable def St5 (x_laws_szBranch : Branch → Int → Option laws_szBranch.R) (a0 : List Branch) (a1 : Int) : (Int × Int) → St E
  | (v1, v2) => { ρ := [(0, .c (.at (.ro 45 (.st 45) a0))), (1, .c (.at (.int .i64 v1))), (5, .c (.at (.int .i64 v2)))], H := [], nx := 0, n := 27, pin := [] }
noncomputable def m0 (N : Nat) (x_laws_szBranch : Branch → Int → Option laws_szBranch.R) (a0 : List Branch) (a1 : Int) (lp5 : Int × Int → Option R) : Option R :=
  bif (decide ((w64 (a1 - (a0.length : Int))) < (0:Int))) then
    some (-1:Int)
  else
  lp5 ((w64 (a1 - (a0.length : Int))), (0:Int))
theorem run (N : Nat) (o0 : Orc E R) (x_laws_szBranch : Branch → Int → Option laws_szBranch.R) (a0 : List Branch) (a1 : Int) : runF T (G N x_laws_szBranch) live [] Tryz.f107 code (sp N x_laws_szBranch) o0 (a0, a1, ()) = m0 N x_laws_szBranch a0 a1 (fun a => o0 loop5 (K5 N x_laws_szBranch o0) (St5 x_laws_szBranch a0 a1 a)) := by kernel_rfl
theorem body5_0 (N : Nat) (o0 : Orc E R) (o1 : Orc E R) (q1 : St E → Option R) (x_laws_szBranch : Branch → Int → Option laws_szBranch.R) (a0 : List Branch) (a1 : Int) (v1 : Int) (v2 : Int) : runA T (G N x_laws_szBranch) live [] o1 body5 (St5 x_laws_szBranch a0 a1 (v1, v2)) (kloop [0, 1, 5] q1 (K5 N x_laws_szBranch o0)) = step5 N x_laws_szBranch a0 a1 (fun a => q1 (St5 x_laws_szBranch a0 a1 a)) (v1, v2) := by kernel_rfl
theorem lp5_eq (N : Nat) (x_laws_szBranch : Branch → Int → Option laws_szBranch.R) (a0 : List Branch) (a1 : Int) (a : Int × Int) : (orc T (G N x_laws_szBranch) live [] N 2) loop5 (K5 N x_laws_szBranch (orc T (G N x_laws_szBranch) live [] N 2)) (St5 x_laws_szBranch a0 a1 a) = lp5 N x_laws_szBranch a0 a1 a :=
  (orc_loop (b := body5) (live := [0, 1, 5]) (by kernel_rfl)).trans (iter_eq (St5 x_laws_szBranch a0 a1) _ _ (fun q1 a => by
    have hc := congrFun (congrFun (rfl : (step5 N x_laws_szBranch a0 a1) = (step5 N x_laws_szBranch a0 a1)) (fun a => q1 (St5 x_laws_szBranch a0 a1 a))) a
    obtain ⟨u0, u1⟩ := a
    exact (body5_0 N (orc T (G N x_laws_szBranch) live [] N 2) (orc T (G N x_laws_szBranch) live [] N 1) q1 x_laws_szBranch a0 a1 u0 u1).trans hc) N a)
theorem G_ok (N : Nat) (x_laws_szBranch : Branch → Int → Option laws_szBranch.R) (hx_laws_szBranch : Sound Tryz.prog E 64 (laws_szBranch.spf x_laws_szBranch)) : GamOK Tryz.prog (G N x_laws_szBranch) := gam_ok (l := [(64, [], laws_szBranch.spf x_laws_szBranch)]) (⟨hx_laws_szBranch, trivial⟩)
theorem snd (N : Nat) (x_laws_szBranch : Branch → Int → Option laws_szBranch.R) (hx_laws_szBranch : Sound Tryz.prog E 64 (laws_szBranch.spf x_laws_szBranch)) : Sound Tryz.prog E 107 (sp N x_laws_szBranch) :=
  Mir.sound T_OK (G_ok N x_laws_szBranch hx_laws_szBranch) mixed Tryz.func107 (c := code) (by kernel_rfl) (by kernel_rfl) (sp N x_laws_szBranch) (Nat.le_of_ble_eq_true (by kernel_rfl)) live [] (by
    rintro ⟨a0, a1, _⟩ r h
    exact ⟨N, 2, ((run N _ x_laws_szBranch a0 a1).trans (congrArg (m0 N x_laws_szBranch a0 a1) (funext fun a => lp5_eq N x_laws_szBranch a0 a1 a))).trans h⟩)
end laws_szBranchS
namespace laws_szBranch
noncomputable def code : Code := Tryz.f64.body.getD .skip
abbrev live : Live := []
noncomputable def G (N : Nat) (slf : Branch → Int → Option R) : Ctx E := gam [(107, [], laws_szBranchS.sp N slf)]
noncomputable def m0 (N : Nat) (slf : Branch → Int → Option R) (a0 : Branch) (a1 : Int) : Option R :=
  bif (decide ((w64 (a1 - (a0.Key.size : Int))) < (0:Int))) then
    some (-1:Int)
  else
  bif (decide ((w64 ((w64 (a1 - (a0.Key.size : Int))) - (a0.Value.size : Int))) < (0:Int))) then
    some (-1:Int)
  else
  ob (laws_szBranchS.m N slf a0.Kids (w64 ((w64 (a1 - (a0.Key.size : Int))) - (a0.Value.size : Int)))) fun y1 =>
  bif (decide (y1 < (0:Int))) then
    some (-1:Int)
  else
  some y1
theorem run (N : Nat) (o0 : Orc E R) (slf : Branch → Int → Option R) (a0 : Branch) (a1 : Int) : runF T (G N slf) live [] Tryz.f64 code (spf (mb N slf)) o0 (a0, a1, ()) = m0 N slf a0 a1 := by kernel_rfl
theorem G_ok (N : Nat) (slf : Branch → Int → Option R) (hs : Sound Tryz.prog E 64 (spf slf)) : GamOK Tryz.prog (G N slf) := gam_ok (l := [(107, [], laws_szBranchS.sp N slf)]) (⟨laws_szBranchS.snd N slf hs, trivial⟩)
theorem sndF (N : Nat) : ∀ n, Sound Tryz.prog E 64 (spf (mF N n))
  | 0 => sound_none Tryz.func64 (c := code) (by kernel_rfl) (by kernel_rfl) (spf (mF N 0)) (fun _ => rfl)
  | n + 1 => by
    have hr := fun (a0 : Branch) (a1 : Int) => (run N (orc T (G N (mF N n)) live [] N 2) (mF N n) a0 a1).trans rfl
    exact Mir.sound T_OK (G_ok N (mF N n) (sndF N n)) mixed Tryz.func64 (c := code) (by kernel_rfl) (by kernel_rfl) (spf (mF N (n + 1))) (Nat.le_of_ble_eq_true (by kernel_rfl)) live [] (by
      rintro ⟨a0, a1, _⟩ r h
      exact ⟨N, 2, (hr a0 a1).trans h⟩)
theorem snd (N : Nat) : Sound Tryz.prog E 64 (sp N) := sndF N N
end laws_szBranch
namespace laws_szReply
noncomputable def code : Code := Tryz.f163.body.getD .skip
abbrev live : Live := []
noncomputable def G (N : Nat) : Ctx E := gam []
noncomputable def m0 (N : Nat) (a0 : Reply) (a1 : Int) : Option R :=
  bif (decide ((w64 (a1 - (a0.Value.size : Int))) < (0:Int))) then
    some (-1:Int)
  else
  some (w64 (a1 - (a0.Value.size : Int)))
theorem run (N : Nat) (o0 : Orc E R) (a0 : Reply) (a1 : Int) : runF T (G N) live [] Tryz.f163 code (sp N) o0 (a0, a1, ()) = m0 N a0 a1 := by kernel_rfl
theorem G_ok (N : Nat) : GamOK Tryz.prog (G N) := gam_ok (l := []) (trivial)
theorem snd (N : Nat) : Sound Tryz.prog E 163 (sp N) :=
  Mir.sound T_OK (G_ok N) mixed Tryz.func163 (c := code) (by kernel_rfl) (by kernel_rfl) (sp N) (Nat.le_of_ble_eq_true (by kernel_rfl)) live [] (by
    rintro ⟨a0, a1, _⟩ r h
    exact ⟨N, 2, ((run N _ a0 a1).trans rfl).trans h⟩)
end laws_szReply
namespace laws_szSession
noncomputable def code : Code := Tryz.f108.body.getD .skip
abbrev live : Live := []
noncomputable def G (N : Nat) : Ctx E := gam [(163, [], laws_szReply.sp N)]
noncomputable def m0 (N : Nat) (a0 : Session) (a1 : Int) : Option R :=
  ob (laws_szReply.m N (Reply.mk a0.Last.Kind a0.Last.Place a0.Last.Value) a1) fun y1 =>
  bif (decide (y1 < (0:Int))) then
    some (-1:Int)
  else
  some y1
theorem run (N : Nat) (o0 : Orc E R) (a0 : Session) (a1 : Int) : runF T (G N) live [] Tryz.f108 code (sp N) o0 (a0, a1, ()) = m0 N a0 a1 := by kernel_rfl
theorem G_ok (N : Nat) : GamOK Tryz.prog (G N) := gam_ok (l := [(163, [], laws_szReply.sp N)]) (⟨laws_szReply.snd N, trivial⟩)
theorem snd (N : Nat) : Sound Tryz.prog E 108 (sp N) :=
  Mir.sound T_OK (G_ok N) mixed Tryz.func108 (c := code) (by kernel_rfl) (by kernel_rfl) (sp N) (Nat.le_of_ble_eq_true (by kernel_rfl)) live [] (by
    rintro ⟨a0, a1, _⟩ r h
    exact ⟨N, 2, ((run N _ a0 a1).trans rfl).trans h⟩)
end laws_szSession
namespace laws_szSessionS
noncomputable def code : Code := Tryz.f65.body.getD .skip
abbrev live : Live := [(5, [0, 1, 5])]
noncomputable def G (N : Nat) : Ctx E := gam [(108, [], laws_szSession.sp N)]
noncomputable def loop5 : Code := codeAt code [1, 1, 1, 0, 1, 0]
noncomputable def body5 : Code := codeAt loop5 [0]
noncomputable def K5 (N : Nat) (o0 : Orc E R) : KT E R := kAt T (G N) live [] o0 code [1, 1, 1, 0, 1, 0] (kfin T Tryz.f65 (sp N))
noncomputable def St5 (a0 : List Session) (a1 : Int) : (Int × Int) → St E
  | (v1, v2) => { ρ := [(0, .c (.at (.ro 164 (.st 164) a0))), (1, .c (.at (.int .i64 v1))), (5, .c (.at (.int .i64 v2)))], H := [], nx := 0, n := 27, pin := [] }
noncomputable def m0 (N : Nat) (a0 : List Session) (a1 : Int) (lp5 : Int × Int → Option R) : Option R :=
  bif (decide ((w64 (a1 - (a0.length : Int))) < (0:Int))) then
    some (-1:Int)
  else
  lp5 ((w64 (a1 - (a0.length : Int))), (0:Int))
theorem run (N : Nat) (o0 : Orc E R) (a0 : List Session) (a1 : Int) : runF T (G N) live [] Tryz.f65 code (sp N) o0 (a0, a1, ()) = m0 N a0 a1 (fun a => o0 loop5 (K5 N o0) (St5 a0 a1 a)) := by kernel_rfl
theorem body5_0 (N : Nat) (o0 : Orc E R) (o1 : Orc E R) (q1 : St E → Option R) (a0 : List Session) (a1 : Int) (v1 : Int) (v2 : Int) : runA T (G N) live [] o1 body5 (St5 a0 a1 (v1, v2)) (kloop [0, 1, 5] q1 (K5 N o0)) = step5 N a0 a1 (fun a => q1 (St5 a0 a1 a)) (v1, v2) := by kernel_rfl
theorem lp5_eq (N : Nat) (a0 : List Session) (a1 : Int) (a : Int × Int) : (orc T (G N) live [] N 2) loop5 (K5 N (orc T (G N) live [] N 2)) (St5 a0 a1 a) = lp5 N a0 a1 a :=
  (orc_loop (b := body5) (live := [0, 1, 5]) (by kernel_rfl)).trans (iter_eq (St5 a0 a1) _ _ (fun q1 a => by
    have hc := congrFun (congrFun (rfl : (step5 N a0 a1) = (step5 N a0 a1)) (fun a => q1 (St5 a0 a1 a))) a
    obtain ⟨u0, u1⟩ := a
    exact (body5_0 N (orc T (G N) live [] N 2) (orc T (G N) live [] N 1) q1 a0 a1 u0 u1).trans hc) N a)
theorem G_ok (N : Nat) : GamOK Tryz.prog (G N) := gam_ok (l := [(108, [], laws_szSession.sp N)]) (⟨laws_szSession.snd N, trivial⟩)
theorem snd (N : Nat) : Sound Tryz.prog E 65 (sp N) :=
  Mir.sound T_OK (G_ok N) mixed Tryz.func65 (c := code) (by kernel_rfl) (by kernel_rfl) (sp N) (Nat.le_of_ble_eq_true (by kernel_rfl)) live [] (by
    rintro ⟨a0, a1, _⟩ r h
    exact ⟨N, 2, ((run N _ a0 a1).trans (congrArg (m0 N a0 a1) (funext fun a => lp5_eq N a0 a1 a))).trans h⟩)
end laws_szSessionS
namespace laws_szLedger
noncomputable def code : Code := Tryz.f22.body.getD .skip
abbrev live : Live := []
noncomputable def G (N : Nat) : Ctx E := gam [(63, [], laws_szStringS.sp N), (64, [], laws_szBranch.sp N), (65, [], laws_szSessionS.sp N)]
noncomputable def m0 (N : Nat) (a0 : Ledger) (a1 : Int) : Option R :=
  ob (laws_szStringS.m N a0.Leaves a1) fun y1 =>
  bif (decide (y1 < (0:Int))) then
    some (-1:Int)
  else
  ob (laws_szBranch.m N (Branch.mk a0.Map.Key a0.Map.Value a0.Map.At a0.Map.Kids) y1) fun y2 =>
  bif (decide (y2 < (0:Int))) then
    some (-1:Int)
  else
  ob (laws_szSessionS.m N a0.Sessions y2) fun y3 =>
  bif (decide (y3 < (0:Int))) then
    some (-1:Int)
  else
  some y3
theorem run (N : Nat) (o0 : Orc E R) (a0 : Ledger) (a1 : Int) : runF T (G N) live [] Tryz.f22 code (sp N) o0 (a0, a1, ()) = m0 N a0 a1 := by kernel_rfl
theorem G_ok (N : Nat) : GamOK Tryz.prog (G N) := gam_ok (l := [(63, [], laws_szStringS.sp N), (64, [], laws_szBranch.sp N), (65, [], laws_szSessionS.sp N)]) (⟨laws_szStringS.snd N, laws_szBranch.snd N, laws_szSessionS.snd N, trivial⟩)
theorem snd (N : Nat) : Sound Tryz.prog E 22 (sp N) :=
  Mir.sound T_OK (G_ok N) mixed Tryz.func22 (c := code) (by kernel_rfl) (by kernel_rfl) (sp N) (Nat.le_of_ble_eq_true (by kernel_rfl)) live [] (by
    rintro ⟨a0, a1, _⟩ r h
    exact ⟨N, 2, ((run N _ a0 a1).trans rfl).trans h⟩)
end laws_szLedger
namespace laws_toStringS
noncomputable def code : Code := Tryz.f67.body.getD .skip
abbrev live : Live := [(3, [0, 3, 4])]
noncomputable def G (N : Nat) : Ctx E := gam []
noncomputable def loop3 : Code := codeAt code [1, 1, 0, 1, 0]
noncomputable def body3 : Code := codeAt loop3 [0]
noncomputable def K3 (N : Nat) (o0 : Orc E R) : KT E R := kAt T (G N) live [] o0 code [1, 1, 0, 1, 0] (kfin T Tryz.f67 (sp N))
noncomputable def St3 (a0 : List ByteArray) : (Int × (List ByteArray)) → St E
  | (v1, v2) => { ρ := [(0, .c (.at (.ro 9 .str a0))), (3, .c (.at (.own 0))), (4, .c (.at (.int .i64 v1)))], H := [(0, .row 9 .str v2 false)], nx := 1, n := 22, pin := [] }
noncomputable def m0 (N : Nat) (a0 : List ByteArray) (lp3 : Int × (List ByteArray) → Option R) : Option R :=
  bif (decide (0 ≤ (a0.length : Int))) then
  bif (room (Int.toNat (a0.length : Int)) 16) then
  lp3 ((0:Int), (List.replicate (Int.toNat (a0.length : Int)) ByteArray.empty))
  else none
  else none
theorem run (N : Nat) (o0 : Orc E R) (a0 : List ByteArray) : runF T (G N) live [] Tryz.f67 code (sp N) o0 (a0, ()) = m0 N a0 (fun a => o0 loop3 (K3 N o0) (St3 a0 a)) := by kernel_rfl
theorem body3_0 (N : Nat) (o0 : Orc E R) (o1 : Orc E R) (q1 : St E → Option R) (a0 : List ByteArray) (v1 : Int) (v2 : List ByteArray) : runA T (G N) live [] o1 body3 (St3 a0 (v1, v2)) (kloop [0, 3, 4] q1 (K3 N o0)) = step3 N a0 (fun a => q1 (St3 a0 a)) (v1, v2) := by kernel_rfl
theorem lp3_eq (N : Nat) (a0 : List ByteArray) (a : Int × (List ByteArray)) : (orc T (G N) live [] N 2) loop3 (K3 N (orc T (G N) live [] N 2)) (St3 a0 a) = lp3 N a0 a :=
  (orc_loop (b := body3) (live := [0, 3, 4]) (by kernel_rfl)).trans (iter_eq (St3 a0) _ _ (fun q1 a => by
    have hc := congrFun (congrFun (rfl : (step3 N a0) = (step3 N a0)) (fun a => q1 (St3 a0 a))) a
    obtain ⟨u0, u1⟩ := a
    exact (body3_0 N (orc T (G N) live [] N 2) (orc T (G N) live [] N 1) q1 a0 u0 u1).trans hc) N a)
theorem G_ok (N : Nat) : GamOK Tryz.prog (G N) := gam_ok (l := []) (trivial)
theorem snd (N : Nat) : Sound Tryz.prog E 67 (sp N) :=
  Mir.sound T_OK (G_ok N) mixed Tryz.func67 (c := code) (by kernel_rfl) (by kernel_rfl) (sp N) (Nat.le_of_ble_eq_true (by kernel_rfl)) live [] (by
    rintro ⟨a0, _⟩ r h
    exact ⟨N, 2, ((run N _ a0).trans (congrArg (m0 N a0) (funext fun a => lp3_eq N a0 a))).trans h⟩)
end laws_toStringS
namespace laws_toBranchS
noncomputable def code : Code := Tryz.f111.body.getD .skip
abbrev live : Live := [(3, [0, 3, 4])]
noncomputable def G (N : Nat) (x_laws_toBranch : Branch → Option laws_toBranch.R) : Ctx E := gam [(68, [], laws_toBranch.spf x_laws_toBranch)]
noncomputable def loop3 : Code := codeAt code [1, 1, 0, 1, 0]
noncomputable def body3 : Code := codeAt loop3 [0]
noncomputable def K3 (N : Nat) (x_laws_toBranch : Branch → Option laws_toBranch.R) (o0 : Orc E R) : KT E R := kAt TD (G N x_laws_toBranch) live [] o0 code [1, 1, 0, 1, 0] (kfin TD Tryz.f111 (sp N x_laws_toBranch))
noncomputable def St3 (x_laws_toBranch : Branch → Option laws_toBranch.R) (a0 : List Branch) : (Int × (List Branch)) → St E
  | (v1, v2) => { ρ := [(0, .c (.at (.ro 45 (.st 45) a0))), (3, .c (.at (.own 0))), (4, .c (.at (.int .i64 v1)))], H := [(0, .drow 27 (.st 27) v2 1), (1, .hdr)], nx := 2, n := 23, pin := [] }
noncomputable def m0 (N : Nat) (x_laws_toBranch : Branch → Option laws_toBranch.R) (a0 : List Branch) (lp3 : Int × (List Branch) → Option R) : Option R :=
  bif (decide (0 ≤ (a0.length : Int))) then
  bif (room (Int.toNat (a0.length : Int)) 64) then
  lp3 ((0:Int), (List.replicate (Int.toNat (a0.length : Int)) (Branch.mk ByteArray.empty ByteArray.empty (0:Int) ([] : List Branch))))
  else none
  else none
theorem run (N : Nat) (o0 : Orc E R) (x_laws_toBranch : Branch → Option laws_toBranch.R) (a0 : List Branch) : runF TD (G N x_laws_toBranch) live [] Tryz.f111 code (sp N x_laws_toBranch) o0 (a0, ()) = m0 N x_laws_toBranch a0 (fun a => o0 loop3 (K3 N x_laws_toBranch o0) (St3 x_laws_toBranch a0 a)) := by kernel_rfl
theorem body3_0 (N : Nat) (o0 : Orc E R) (o1 : Orc E R) (q1 : St E → Option R) (x_laws_toBranch : Branch → Option laws_toBranch.R) (a0 : List Branch) (v1 : Int) (v2 : List Branch) : runA TD (G N x_laws_toBranch) live [] o1 body3 (St3 x_laws_toBranch a0 (v1, v2)) (kloop [0, 3, 4] q1 (K3 N x_laws_toBranch o0)) = step3 N x_laws_toBranch a0 (fun a => q1 (St3 x_laws_toBranch a0 a)) (v1, v2) := by kernel_rfl
theorem lp3_eq (N : Nat) (x_laws_toBranch : Branch → Option laws_toBranch.R) (a0 : List Branch) (a : Int × (List Branch)) : (orc TD (G N x_laws_toBranch) live [] N 2) loop3 (K3 N x_laws_toBranch (orc TD (G N x_laws_toBranch) live [] N 2)) (St3 x_laws_toBranch a0 a) = lp3 N x_laws_toBranch a0 a :=
  (orc_loop (b := body3) (live := [0, 3, 4]) (by kernel_rfl)).trans (iter_eq (St3 x_laws_toBranch a0) _ _ (fun q1 a => by
    have hc := congrFun (congrFun (rfl : (step3 N x_laws_toBranch a0) = (step3 N x_laws_toBranch a0)) (fun a => q1 (St3 x_laws_toBranch a0 a))) a
    obtain ⟨u0, u1⟩ := a
    exact (body3_0 N (orc TD (G N x_laws_toBranch) live [] N 2) (orc TD (G N x_laws_toBranch) live [] N 1) q1 x_laws_toBranch a0 u0 u1).trans hc) N a)
theorem G_ok (N : Nat) (x_laws_toBranch : Branch → Option laws_toBranch.R) (hx_laws_toBranch : Sound Tryz.prog E 68 (laws_toBranch.spf x_laws_toBranch)) : GamOK Tryz.prog (G N x_laws_toBranch) := gam_ok (l := [(68, [], laws_toBranch.spf x_laws_toBranch)]) (⟨hx_laws_toBranch, trivial⟩)
theorem snd (N : Nat) (x_laws_toBranch : Branch → Option laws_toBranch.R) (hx_laws_toBranch : Sound Tryz.prog E 68 (laws_toBranch.spf x_laws_toBranch)) : Sound Tryz.prog E 111 (sp N x_laws_toBranch) :=
  Mir.sound TD_OK (G_ok N x_laws_toBranch hx_laws_toBranch) mixed Tryz.func111 (c := code) (by kernel_rfl) (by kernel_rfl) (sp N x_laws_toBranch) (Nat.le_of_ble_eq_true (by kernel_rfl)) live [] (by
    rintro ⟨a0, _⟩ r h
    exact ⟨N, 2, ((run N _ x_laws_toBranch a0).trans (congrArg (m0 N x_laws_toBranch a0) (funext fun a => lp3_eq N x_laws_toBranch a0 a))).trans h⟩)
end laws_toBranchS
namespace laws_toBranch
noncomputable def code : Code := Tryz.f68.body.getD .skip
abbrev live : Live := []
noncomputable def G (N : Nat) (slf : Branch → Option R) : Ctx E := gam [(111, [], laws_toBranchS.sp N slf)]
noncomputable def m0 (N : Nat) (slf : Branch → Option R) (a0 : Branch) : Option R :=
  ob (laws_toBranchS.m N slf a0.Kids) fun y1 =>
  some (Branch.mk a0.Key a0.Value a0.At y1)
theorem run (N : Nat) (o0 : Orc E R) (slf : Branch → Option R) (a0 : Branch) : runF TD (G N slf) live [] Tryz.f68 code (spf (mb N slf)) o0 (a0, ()) = m0 N slf a0 := by kernel_rfl
theorem G_ok (N : Nat) (slf : Branch → Option R) (hs : Sound Tryz.prog E 68 (spf slf)) : GamOK Tryz.prog (G N slf) := gam_ok (l := [(111, [], laws_toBranchS.sp N slf)]) (⟨laws_toBranchS.snd N slf hs, trivial⟩)
theorem sndF (N : Nat) : ∀ n, Sound Tryz.prog E 68 (spf (mF N n))
  | 0 => sound_none Tryz.func68 (c := code) (by kernel_rfl) (by kernel_rfl) (spf (mF N 0)) (fun _ => rfl)
  | n + 1 => by
    have hr := fun (a0 : Branch) => (run N (orc TD (G N (mF N n)) live [] N 2) (mF N n) a0).trans rfl
    exact Mir.sound TD_OK (G_ok N (mF N n) (sndF N n)) mixed Tryz.func68 (c := code) (by kernel_rfl) (by kernel_rfl) (spf (mF N (n + 1))) (Nat.le_of_ble_eq_true (by kernel_rfl)) live [] (by
      rintro ⟨a0, _⟩ r h
      exact ⟨N, 2, (hr a0).trans h⟩)
theorem snd (N : Nat) : Sound Tryz.prog E 68 (sp N) := sndF N N
end laws_toBranch
namespace laws_toReply
noncomputable def code : Code := Tryz.f166.body.getD .skip
abbrev live : Live := []
noncomputable def G (N : Nat) : Ctx E := gam []
noncomputable def m0 (N : Nat) (a0 : Reply) : Option R :=
  some a0
theorem run (N : Nat) (o0 : Orc E R) (a0 : Reply) : runF T (G N) live [] Tryz.f166 code (sp N) o0 (a0, ()) = m0 N a0 := by kernel_rfl
theorem G_ok (N : Nat) : GamOK Tryz.prog (G N) := gam_ok (l := []) (trivial)
theorem snd (N : Nat) : Sound Tryz.prog E 166 (sp N) :=
  Mir.sound T_OK (G_ok N) mixed Tryz.func166 (c := code) (by kernel_rfl) (by kernel_rfl) (sp N) (Nat.le_of_ble_eq_true (by kernel_rfl)) live [] (by
    rintro ⟨a0, _⟩ r h
    exact ⟨N, 2, ((run N _ a0).trans rfl).trans h⟩)
end laws_toReply
namespace laws_toSession
noncomputable def code : Code := Tryz.f112.body.getD .skip
abbrev live : Live := []
noncomputable def G (N : Nat) : Ctx E := gam [(166, [], laws_toReply.sp N)]
noncomputable def m0 (N : Nat) (a0 : Session) : Option R :=
  ob (laws_toReply.m N (Reply.mk a0.Last.Kind a0.Last.Place a0.Last.Value)) fun y1 =>
  some (Session.mk a0.Id a0.Seq y1)
theorem run (N : Nat) (o0 : Orc E R) (a0 : Session) : runF T (G N) live [] Tryz.f112 code (sp N) o0 (a0, ()) = m0 N a0 := by kernel_rfl
theorem G_ok (N : Nat) : GamOK Tryz.prog (G N) := gam_ok (l := [(166, [], laws_toReply.sp N)]) (⟨laws_toReply.snd N, trivial⟩)
theorem snd (N : Nat) : Sound Tryz.prog E 112 (sp N) :=
  Mir.sound T_OK (G_ok N) mixed Tryz.func112 (c := code) (by kernel_rfl) (by kernel_rfl) (sp N) (Nat.le_of_ble_eq_true (by kernel_rfl)) live [] (by
    rintro ⟨a0, _⟩ r h
    exact ⟨N, 2, ((run N _ a0).trans rfl).trans h⟩)
end laws_toSession
namespace laws_toSessionS
noncomputable def code : Code := Tryz.f69.body.getD .skip
abbrev live : Live := [(3, [0, 3, 4])]
noncomputable def G (N : Nat) : Ctx E := gam [(112, [], laws_toSession.sp N)]
noncomputable def loop3 : Code := codeAt code [1, 1, 0, 1, 0]
noncomputable def body3 : Code := codeAt loop3 [0]
noncomputable def K3 (N : Nat) (o0 : Orc E R) : KT E R := kAt T (G N) live [] o0 code [1, 1, 0, 1, 0] (kfin T Tryz.f69 (sp N))
noncomputable def St3 (a0 : List Session) : (Int × (List Session)) → St E
  | (v1, v2) => { ρ := [(0, .c (.at (.ro 164 (.st 164) a0))), (3, .c (.at (.own 0))), (4, .c (.at (.int .i64 v1)))], H := [(0, .row 131 (.st 131) v2 false)], nx := 1, n := 23, pin := [] }
noncomputable def m0 (N : Nat) (a0 : List Session) (lp3 : Int × (List Session) → Option R) : Option R :=
  bif (decide (0 ≤ (a0.length : Int))) then
  bif (room (Int.toNat (a0.length : Int)) 48) then
  lp3 ((0:Int), (List.replicate (Int.toNat (a0.length : Int)) (Session.mk (0:Int) (0:Int) (Reply.mk (0:Int) (0:Int) ByteArray.empty))))
  else none
  else none
theorem run (N : Nat) (o0 : Orc E R) (a0 : List Session) : runF T (G N) live [] Tryz.f69 code (sp N) o0 (a0, ()) = m0 N a0 (fun a => o0 loop3 (K3 N o0) (St3 a0 a)) := by kernel_rfl
theorem body3_0 (N : Nat) (o0 : Orc E R) (o1 : Orc E R) (q1 : St E → Option R) (a0 : List Session) (v1 : Int) (v2 : List Session) : runA T (G N) live [] o1 body3 (St3 a0 (v1, v2)) (kloop [0, 3, 4] q1 (K3 N o0)) = step3 N a0 (fun a => q1 (St3 a0 a)) (v1, v2) := by kernel_rfl
theorem lp3_eq (N : Nat) (a0 : List Session) (a : Int × (List Session)) : (orc T (G N) live [] N 2) loop3 (K3 N (orc T (G N) live [] N 2)) (St3 a0 a) = lp3 N a0 a :=
  (orc_loop (b := body3) (live := [0, 3, 4]) (by kernel_rfl)).trans (iter_eq (St3 a0) _ _ (fun q1 a => by
    have hc := congrFun (congrFun (rfl : (step3 N a0) = (step3 N a0)) (fun a => q1 (St3 a0 a))) a
    obtain ⟨u0, u1⟩ := a
    exact (body3_0 N (orc T (G N) live [] N 2) (orc T (G N) live [] N 1) q1 a0 u0 u1).trans hc) N a)
theorem G_ok (N : Nat) : GamOK Tryz.prog (G N) := gam_ok (l := [(112, [], laws_toSession.sp N)]) (⟨laws_toSession.snd N, trivial⟩)
theorem snd (N : Nat) : Sound Tryz.prog E 69 (sp N) :=
  Mir.sound T_OK (G_ok N) mixed Tryz.func69 (c := code) (by kernel_rfl) (by kernel_rfl) (sp N) (Nat.le_of_ble_eq_true (by kernel_rfl)) live [] (by
    rintro ⟨a0, _⟩ r h
    exact ⟨N, 2, ((run N _ a0).trans (congrArg (m0 N a0) (funext fun a => lp3_eq N a0 a))).trans h⟩)
end laws_toSessionS
namespace laws_toLedger
noncomputable def code : Code := Tryz.f25.body.getD .skip
abbrev live : Live := []
noncomputable def G (N : Nat) : Ctx E := gam [(67, [], laws_toStringS.sp N), (68, [], laws_toBranch.sp N), (69, [], laws_toSessionS.sp N)]
noncomputable def m0 (N : Nat) (a0 : Ledger) : Option R :=
  ob (laws_toStringS.m N a0.Leaves) fun y1 =>
  ob (laws_toBranch.m N (Branch.mk a0.Map.Key a0.Map.Value a0.Map.At a0.Map.Kids)) fun y2 =>
  ob (laws_toSessionS.m N a0.Sessions) fun y3 =>
  some (Ledger.mk y1 (Branch.mk y2.Key y2.Value y2.At y2.Kids) y3)
theorem run (N : Nat) (o0 : Orc E R) (a0 : Ledger) : runF TD (G N) live [] Tryz.f25 code (sp N) o0 (a0, ()) = m0 N a0 := by kernel_rfl
theorem G_ok (N : Nat) : GamOK Tryz.prog (G N) := gam_ok (l := [(67, [], laws_toStringS.sp N), (68, [], laws_toBranch.sp N), (69, [], laws_toSessionS.sp N)]) (⟨laws_toStringS.snd N, laws_toBranch.snd N, laws_toSessionS.snd N, trivial⟩)
theorem snd (N : Nat) : Sound Tryz.prog E 25 (sp N) :=
  Mir.sound TD_OK (G_ok N) mixed Tryz.func25 (c := code) (by kernel_rfl) (by kernel_rfl) (sp N) (Nat.le_of_ble_eq_true (by kernel_rfl)) live [] (by
    rintro ⟨a0, _⟩ r h
    exact ⟨N, 2, ((run N _ a0).trans rfl).trans h⟩)
end laws_toLedger
namespace spec_l06Hashes
noncomputable def code : Code := Tryz.f109.body.getD .skip
abbrev live : Live := [(4, [0, 3])]
noncomputable def G (N : Nat) : Ctx E := gam []
noncomputable def loop4 : Code := codeAt code [1, 1, 0, 1, 0]
noncomputable def body4 : Code := codeAt loop4 [0]
noncomputable def K4 (N : Nat) (o0 : Orc E R) : KT E R := kAt T (G N) live [] o0 code [1, 1, 0, 1, 0] (kfin T Tryz.f109 (sp N))
noncomputable def St4 (a0 : List ByteArray) : Int → St E
  | v1 => { ρ := [(0, .c (.at (.ro 9 .str a0))), (3, .c (.at (.int .i64 v1)))], H := [], nx := 0, n := 19, pin := [] }
noncomputable def m0 (N : Nat) (a0 : List ByteArray) (lp4 : Int → Option R) : Option R :=
  bif (decide ((a0.length : Int) > (64:Int))) then
    some false
  else
  lp4 (0:Int)
theorem run (N : Nat) (o0 : Orc E R) (a0 : List ByteArray) : runF T (G N) live [] Tryz.f109 code (sp N) o0 (a0, ()) = m0 N a0 (fun a => o0 loop4 (K4 N o0) (St4 a0 a)) := by kernel_rfl
theorem body4_0 (N : Nat) (o0 : Orc E R) (o1 : Orc E R) (q1 : St E → Option R) (a0 : List ByteArray) (v1 : Int) : runA T (G N) live [] o1 body4 (St4 a0 v1) (kloop [0, 3] q1 (K4 N o0)) = step4 N a0 (fun a => q1 (St4 a0 a)) v1 := by kernel_rfl
theorem lp4_eq (N : Nat) (a0 : List ByteArray) (a : Int) : (orc T (G N) live [] N 2) loop4 (K4 N (orc T (G N) live [] N 2)) (St4 a0 a) = lp4 N a0 a :=
  (orc_loop (b := body4) (live := [0, 3]) (by kernel_rfl)).trans (iter_eq (St4 a0) _ _ (fun q1 a => by
    have hc := congrFun (congrFun (rfl : (step4 N a0) = (step4 N a0)) (fun a => q1 (St4 a0 a))) a
    exact (body4_0 N (orc T (G N) live [] N 2) (orc T (G N) live [] N 1) q1 a0 a).trans hc) N a)
theorem G_ok (N : Nat) : GamOK Tryz.prog (G N) := gam_ok (l := []) (trivial)
theorem snd (N : Nat) : Sound Tryz.prog E 109 (sp N) :=
  Mir.sound T_OK (G_ok N) mixed Tryz.func109 (c := code) (by kernel_rfl) (by kernel_rfl) (sp N) (Nat.le_of_ble_eq_true (by kernel_rfl)) live [] (by
    rintro ⟨a0, _⟩ r h
    exact ⟨N, 2, ((run N _ a0).trans (congrArg (m0 N a0) (funext fun a => lp4_eq N a0 a))).trans h⟩)
end spec_l06Hashes
namespace spec_l07Empty
noncomputable def code : Code := Tryz.f164.body.getD .skip
abbrev live : Live := []
noncomputable def G (N : Nat) : Ctx E := gam []
noncomputable def m0 (N : Nat) (a0 : Branch) : Option R :=
  bif (seq a0.Key ByteArray.empty) then
    bif (bif true then (seq a0.Value ByteArray.empty) else false) then
      bif (bif true then (a0.At == (0:Int)) else false) then
        some (bif true then ((a0.Kids.length : Int) == (0:Int)) else false)
      else
      some false
    else
    some false
  else
  some false
theorem run (N : Nat) (o0 : Orc E R) (a0 : Branch) : runF T (G N) live [] Tryz.f164 code (sp N) o0 (a0, ()) = m0 N a0 := by kernel_rfl
theorem G_ok (N : Nat) : GamOK Tryz.prog (G N) := gam_ok (l := []) (trivial)
theorem snd (N : Nat) : Sound Tryz.prog E 164 (sp N) :=
  Mir.sound T_OK (G_ok N) mixed Tryz.func164 (c := code) (by kernel_rfl) (by kernel_rfl) (sp N) (Nat.le_of_ble_eq_true (by kernel_rfl)) live [] (by
    rintro ⟨a0, _⟩ r h
    exact ⟨N, 2, ((run N _ a0).trans rfl).trans h⟩)
end spec_l07Empty
namespace spec_l07Leaf
noncomputable def code : Code := Tryz.f182.body.getD .skip
abbrev live : Live := []
noncomputable def G (N : Nat) : Ctx E := gam []
noncomputable def m0 (N : Nat) (a0 : Branch) : Option R :=
  some ((a0.Kids.length : Int) == (0:Int))
theorem run (N : Nat) (o0 : Orc E R) (a0 : Branch) : runF T (G N) live [] Tryz.f182 code (sp N) o0 (a0, ()) = m0 N a0 := by kernel_rfl
theorem G_ok (N : Nat) : GamOK Tryz.prog (G N) := gam_ok (l := []) (trivial)
theorem snd (N : Nat) : Sound Tryz.prog E 182 (sp N) :=
  Mir.sound T_OK (G_ok N) mixed Tryz.func182 (c := code) (by kernel_rfl) (by kernel_rfl) (sp N) (Nat.le_of_ble_eq_true (by kernel_rfl)) live [] (by
    rintro ⟨a0, _⟩ r h
    exact ⟨N, 2, ((run N _ a0).trans rfl).trans h⟩)
end spec_l07Leaf
namespace spec_l02Key
noncomputable def code : Code := Tryz.f95.body.getD .skip
abbrev live : Live := []
noncomputable def G (N : Nat) : Ctx E := gam []
noncomputable def m0 (N : Nat) (a0 : ByteArray) : Option R :=
  bif (decide ((a0.size : Int) ≥ (1:Int))) then
    some (bif true then (decide ((a0.size : Int) ≤ (24:Int))) else false)
  else
  some false
theorem run (N : Nat) (o0 : Orc E R) (a0 : ByteArray) : runF T (G N) live [] Tryz.f95 code (sp N) o0 (a0, ()) = m0 N a0 := by kernel_rfl
theorem G_ok (N : Nat) : GamOK Tryz.prog (G N) := gam_ok (l := []) (trivial)
theorem snd (N : Nat) : Sound Tryz.prog E 95 (sp N) :=
  Mir.sound T_OK (G_ok N) mixed Tryz.func95 (c := code) (by kernel_rfl) (by kernel_rfl) (sp N) (Nat.le_of_ble_eq_true (by kernel_rfl)) live [] (by
    rintro ⟨a0, _⟩ r h
    exact ⟨N, 2, ((run N _ a0).trans rfl).trans h⟩)
end spec_l02Key
namespace spec_l01Consts
noncomputable def code : Code := Tryz.f252.body.getD .skip
abbrev live : Live := []
noncomputable def G (N : Nat) : Ctx E := gam []
noncomputable def m0 (N : Nat) : Option R :=
  (let w1 : List Int := [(1116352408:Int), (1899447441:Int), (3049323471:Int), (3921009573:Int), (961987163:Int), (1508970993:Int), (2453635748:Int), (2870763221:Int), (3624381080:Int), (310598401:Int), (607225278:Int), (1426881987:Int), (1925078388:Int), (2162078206:Int), (2614888103:Int), (3248222580:Int), (3835390401:Int), (4022224774:Int), (264347078:Int), (604807628:Int), (770255983:Int), (1249150122:Int), (1555081692:Int), (1996064986:Int), (2554220882:Int), (2821834349:Int), (2952996808:Int), (3210313671:Int), (3336571891:Int), (3584528711:Int), (113926993:Int), (338241895:Int), (666307205:Int), (773529912:Int), (1294757372:Int), (1396182291:Int), (1695183700:Int), (1986661051:Int), (2177026350:Int), (2456956037:Int), (2730485921:Int), (2820302411:Int), (3259730800:Int), (3345764771:Int), (3516065817:Int), (3600352804:Int), (4094571909:Int), (275423344:Int), (430227734:Int), (506948616:Int), (659060556:Int), (883997877:Int), (958139571:Int), (1322822218:Int), (1537002063:Int), (1747873779:Int), (1955562222:Int), (2024104815:Int), (2227730452:Int), (2361852424:Int), (2428436474:Int), (2756734187:Int), (3204031479:Int), (3329325298:Int)]
  some w1)
theorem run (N : Nat) (o0 : Orc E R) : runF T (G N) live [] Tryz.f252 code (sp N) o0 () = m0 N := by kernel_rfl
theorem G_ok (N : Nat) : GamOK Tryz.prog (G N) := gam_ok (l := []) (trivial)
theorem snd (N : Nat) : Sound Tryz.prog E 252 (sp N) :=
  Mir.sound T_OK (G_ok N) mixed Tryz.func252 (c := code) (by kernel_rfl) (by kernel_rfl) (sp N) (Nat.le_of_ble_eq_true (by kernel_rfl)) live [] (by
    rintro _ r h
    exact ⟨N, 2, ((run N _).trans rfl).trans h⟩)
end spec_l01Consts
namespace spec_l01Turn
noncomputable def code : Code := Tryz.f273.body.getD .skip
abbrev live : Live := []
noncomputable def G (N : Nat) : Ctx E := gam []
noncomputable def m0 (N : Nat) (a0 : Int) (a1 : Int) : Option R :=
  bif (!decide (a1 < 0)) then
  bif (!decide ((wu64 ((32:Int) - a1)) < 0)) then
  some (ibit .or .u32 (Int.fdiv a0 (2 ^ (min (Int.toNat a1) 32))) (wu32 (a0 * 2 ^ (min (Int.toNat (wu64 ((32:Int) - a1))) 32))))
  else none
  else none
theorem run (N : Nat) (o0 : Orc E R) (a0 : Int) (a1 : Int) : runF T (G N) live [] Tryz.f273 code (sp N) o0 (a0, a1, ()) = m0 N a0 a1 := by kernel_rfl
theorem G_ok (N : Nat) : GamOK Tryz.prog (G N) := gam_ok (l := []) (trivial)
theorem snd (N : Nat) : Sound Tryz.prog E 273 (sp N) :=
  Mir.sound T_OK (G_ok N) mixed Tryz.func273 (c := code) (by kernel_rfl) (by kernel_rfl) (sp N) (Nat.le_of_ble_eq_true (by kernel_rfl)) live [] (by
    rintro ⟨a0, a1, _⟩ r h
    exact ⟨N, 2, ((run N _ a0 a1).trans rfl).trans h⟩)
end spec_l01Turn
namespace spec_l01Block
noncomputable def code : Code := Tryz.f253.body.getD .skip
abbrev live : Live := [(21, [0, 11, 17]), (13, [0, 2, 6, 11, 12]), (6, [0, 2, 6, 8]), (2, [0, 1, 2, 6, 7])]
noncomputable def G (N : Nat) : Ctx E := gam [(273, [], spec_l01Turn.sp N)]
noncomputable def loop2 : Code := codeAt code [1, 0, 1, 0]
noncomputable def body2 : Code := codeAt loop2 [0]
noncomputable def loop6 : Code := codeAt code [1, 1, 0, 1, 0]
noncomputable def body6 : Code := codeAt loop6 [0]
noncomputable def loop13 : Code := codeAt code [1, 1, 1, 1, 0, 1, 0]
noncomputable def body13 : Code := codeAt loop13 [0]
noncomputable def loop21 : Code := codeAt code [1, 1, 1, 1, 1, 1, 0]
noncomputable def body21 : Code := codeAt loop21 [0]
noncomputable def K2 (N : Nat) (o0 : Orc E R) : KT E R := kAt T (G N) live [] o0 code [1, 0, 1, 0] (kfin T Tryz.f253 (sp N))
noncomputable def St2 (a0 : List Int) (a1 : List Int) (a2 : List Int) : (Int × (List Int)) → St E
  | (v2, v4) => { ρ := [(0, .c (.at (.own 0))), (1, .c (.at (.ro 5 (.int .u8) a1))), (2, .c (.at (.ro 238 (.int .u32) a2))), (6, .c (.at (.own 1))), (7, .c (.at (.int .i64 v2)))], H := [(0, .row 238 (.int .u32) a0 false), (1, .row 238 (.int .u32) v4 false)], nx := 2, n := 222, pin := [0] }
noncomputable def K6 (N : Nat) (o0 : Orc E R) : KT E R := kAt T (G N) live [] o0 code [1, 1, 0, 1, 0] (kfin T Tryz.f253 (sp N))
noncomputable def St6 (a0 : List Int) (a1 : List Int) (a2 : List Int) : (Int × (List Int)) → St E
  | (v1, v3) => { ρ := [(0, .c (.at (.own 0))), (2, .c (.at (.ro 238 (.int .u32) a2))), (6, .c (.at (.own 1))), (8, .c (.at (.int .i64 v1)))], H := [(0, .row 238 (.int .u32) a0 false), (1, .row 238 (.int .u32) v3 false)], nx := 2, n := 222, pin := [0] }
noncomputable def K13 (N : Nat) (o0 : Orc E R) : KT E R := kAt T (G N) live [] o0 code [1, 1, 1, 1, 0, 1, 0] (kfin T Tryz.f253 (sp N))
noncomputable def St13 (a0 : List Int) (a1 : List Int) (a2 : List Int) : (Int × (List Int) × (List Int)) → St E
  | (v1, v3, v4) => { ρ := [(0, .c (.at (.own 0))), (2, .c (.at (.ro 238 (.int .u32) a2))), (6, .c (.at (.own 1))), (11, .c (.at (.own 2))), (12, .c (.at (.int .i64 v1)))], H := [(0, .row 238 (.int .u32) a0 false), (1, .row 238 (.int .u32) v3 false), (2, .row 238 (.int .u32) v4 false)], nx := 3, n := 222, pin := [0] }
noncomputable def K21 (N : Nat) (o0 : Orc E R) : KT E R := kAt T (G N) live [] o0 code [1, 1, 1, 1, 1, 1, 0] (kfin T Tryz.f253 (sp N))
noncomputable def St21 (a0 : List Int) (a1 : List Int) (a2 : List Int) : (Int × (List Int) × (List Int)) → St E
  | (v0, v1, v2) => { ρ := [(0, .c (.at (.own 0))), (11, .c (.at (.own 1))), (17, .c (.at (.int .i64 v0)))], H := [(0, .row 238 (.int .u32) v1 false), (1, .row 238 (.int .u32) v2 false)], nx := 2, n := 222, pin := [0] }
noncomputable def m0 (N : Nat) (a0 : List Int) (a1 : List Int) (a2 : List Int) (lp2 : Int × (List Int) → Option R) : Option R :=
  bif (decide (0 ≤ (64:Int))) then
  bif (room 64 4) then
  lp2 ((0:Int), (List.replicate 64 (0:Int)))
  else none
  else none
theorem run (N : Nat) (o0 : Orc E R) (a0 : List Int) (a1 : List Int) (a2 : List Int) : runF T (G N) live [] Tryz.f253 code (sp N) o0 (a0, a1, a2, ()) = m0 N a0 a1 a2 (fun a => o0 loop2 (K2 N o0) (St2 a0 a1 a2 a)) := by kernel_rfl
theorem body2_0 (N : Nat) (o0 : Orc E R) (o1 : Orc E R) (q1 : St E → Option R) (a0 : List Int) (a1 : List Int) (a2 : List Int) (v2 : Int) (v4 : List Int) : runA T (G N) live [] o1 body2 (St2 a0 a1 a2 (v2, v4)) (kloop [0, 1, 2, 6, 7] q1 (K2 N o0)) = step2 N a0 a1 a2 (fun a => o0 loop6 (K6 N o0) (St6 a0 a1 a2 a)) (fun a => q1 (St2 a0 a1 a2 a)) (v2, v4) := by kernel_rfl
theorem body6_0 (N : Nat) (o0 : Orc E R) (o1 : Orc E R) (q1 : St E → Option R) (a0 : List Int) (a1 : List Int) (a2 : List Int) (v1 : Int) (v3 : List Int) : runA T (G N) live [] o1 body6 (St6 a0 a1 a2 (v1, v3)) (kloop [0, 2, 6, 8] q1 (K6 N o0)) = step6 N a0 a1 a2 (fun a => o0 loop13 (K13 N o0) (St13 a0 a1 a2 a)) (fun a => q1 (St6 a0 a1 a2 a)) (v1, v3) := by kernel_rfl
theorem body13_0 (N : Nat) (o0 : Orc E R) (o1 : Orc E R) (q1 : St E → Option R) (a0 : List Int) (a1 : List Int) (a2 : List Int) (v1 : Int) (v3 : List Int) (v4 : List Int) : runA T (G N) live [] o1 body13 (St13 a0 a1 a2 (v1, v3, v4)) (kloop [0, 2, 6, 11, 12] q1 (K13 N o0)) = step13 N a0 a1 a2 (fun a => o0 loop21 (K21 N o0) (St21 a0 a1 a2 a)) (fun a => q1 (St13 a0 a1 a2 a)) (v1, v3, v4) := by kernel_rfl
theorem body21_0 (N : Nat) (o0 : Orc E R) (o1 : Orc E R) (q1 : St E → Option R) (a0 : List Int) (a1 : List Int) (a2 : List Int) (v0 : Int) (v1 : List Int) (v2 : List Int) : runA T (G N) live [] o1 body21 (St21 a0 a1 a2 (v0, v1, v2)) (kloop [0, 11, 17] q1 (K21 N o0)) = step21 N a0 a1 a2 (fun a => q1 (St21 a0 a1 a2 a)) (v0, v1, v2) := by kernel_rfl
theorem lp21_eq (N : Nat) (a0 : List Int) (a1 : List Int) (a2 : List Int) (a : Int × (List Int) × (List Int)) : (orc T (G N) live [] N 2) loop21 (K21 N (orc T (G N) live [] N 2)) (St21 a0 a1 a2 a) = lp21 N a0 a1 a2 a :=
  (orc_loop (b := body21) (live := [0, 11, 17]) (by kernel_rfl)).trans (iter_eq (St21 a0 a1 a2) _ _ (fun q1 a => by
    have hc := congrFun (congrFun (rfl : (step21 N a0 a1 a2) = (step21 N a0 a1 a2)) (fun a => q1 (St21 a0 a1 a2 a))) a
    obtain ⟨u0, u1, u2⟩ := a
    exact (body21_0 N (orc T (G N) live [] N 2) (orc T (G N) live [] N 1) q1 a0 a1 a2 u0 u1 u2).trans hc) N a)
theorem lp13_eq (N : Nat) (a0 : List Int) (a1 : List Int) (a2 : List Int) (a : Int × (List Int) × (List Int)) : (orc T (G N) live [] N 2) loop13 (K13 N (orc T (G N) live [] N 2)) (St13 a0 a1 a2 a) = lp13 N a0 a1 a2 a :=
  (orc_loop (b := body13) (live := [0, 2, 6, 11, 12]) (by kernel_rfl)).trans (iter_eq (St13 a0 a1 a2) _ _ (fun q1 a => by
    have hc := congrFun (congrFun (congrArg (step13 N a0 a1 a2) (funext fun a => lp21_eq N a0 a1 a2 a)) (fun a => q1 (St13 a0 a1 a2 a))) a
    obtain ⟨u0, u1, u2⟩ := a
    exact (body13_0 N (orc T (G N) live [] N 2) (orc T (G N) live [] N 1) q1 a0 a1 a2 u0 u1 u2).trans hc) N a)
theorem lp6_eq (N : Nat) (a0 : List Int) (a1 : List Int) (a2 : List Int) (a : Int × (List Int)) : (orc T (G N) live [] N 2) loop6 (K6 N (orc T (G N) live [] N 2)) (St6 a0 a1 a2 a) = lp6 N a0 a1 a2 a :=
  (orc_loop (b := body6) (live := [0, 2, 6, 8]) (by kernel_rfl)).trans (iter_eq (St6 a0 a1 a2) _ _ (fun q1 a => by
    have hc := congrFun (congrFun (congrArg (step6 N a0 a1 a2) (funext fun a => lp13_eq N a0 a1 a2 a)) (fun a => q1 (St6 a0 a1 a2 a))) a
    obtain ⟨u0, u1⟩ := a
    exact (body6_0 N (orc T (G N) live [] N 2) (orc T (G N) live [] N 1) q1 a0 a1 a2 u0 u1).trans hc) N a)
theorem lp2_eq (N : Nat) (a0 : List Int) (a1 : List Int) (a2 : List Int) (a : Int × (List Int)) : (orc T (G N) live [] N 2) loop2 (K2 N (orc T (G N) live [] N 2)) (St2 a0 a1 a2 a) = lp2 N a0 a1 a2 a :=
  (orc_loop (b := body2) (live := [0, 1, 2, 6, 7]) (by kernel_rfl)).trans (iter_eq (St2 a0 a1 a2) _ _ (fun q1 a => by
    have hc := congrFun (congrFun (congrArg (step2 N a0 a1 a2) (funext fun a => lp6_eq N a0 a1 a2 a)) (fun a => q1 (St2 a0 a1 a2 a))) a
    obtain ⟨u0, u1⟩ := a
    exact (body2_0 N (orc T (G N) live [] N 2) (orc T (G N) live [] N 1) q1 a0 a1 a2 u0 u1).trans hc) N a)
theorem G_ok (N : Nat) : GamOK Tryz.prog (G N) := gam_ok (l := [(273, [], spec_l01Turn.sp N)]) (⟨spec_l01Turn.snd N, trivial⟩)
theorem snd (N : Nat) : Sound Tryz.prog E 253 (sp N) :=
  Mir.sound T_OK (G_ok N) mixed Tryz.func253 (c := code) (by kernel_rfl) (by kernel_rfl) (sp N) (Nat.le_of_ble_eq_true (by kernel_rfl)) live [] (by
    rintro ⟨a0, a1, a2, _⟩ r h
    exact ⟨N, 2, ((run N _ a0 a1 a2).trans (congrArg (m0 N a0 a1 a2) (funext fun a => lp2_eq N a0 a1 a2 a))).trans h⟩)
end spec_l01Block
namespace spec_l01Hash
noncomputable def code : Code := Tryz.f212.body.getD .skip
abbrev live : Live := [(16, [3, 8, 9]), (11, [3, 4, 6, 7]), (6, [0, 3, 4, 5]), (3, [0, 3, 4])]
noncomputable def G (N : Nat) : Ctx E := gam [(252, [], spec_l01Consts.sp N), (253, [], spec_l01Block.sp N)]
noncomputable def loop3 : Code := codeAt code [1, 1, 1, 0, 0]
noncomputable def body3 : Code := codeAt loop3 [0]
noncomputable def loop6 : Code := codeAt code [1, 1, 1, 1, 0, 1, 0]
noncomputable def body6 : Code := codeAt loop6 [0]
noncomputable def loop11 : Code := codeAt code [1, 1, 1, 1, 1, 1, 0, 1, 0]
noncomputable def body11 : Code := codeAt loop11 [0]
noncomputable def loop16 : Code := codeAt code [1, 1, 1, 1, 1, 1, 1, 1, 0, 1, 0]
noncomputable def body16 : Code := codeAt loop16 [0]
noncomputable def K3 (N : Nat) (o0 : Orc E R) : KT E R := kAt T (G N) live [] o0 code [1, 1, 1, 0, 0] (kfin T Tryz.f212 (sp N))
noncomputable def St3 (a0 : List Int) : ((List Int) × (List Int)) → St E
  | (v1, v2) => { ρ := [(0, .c (.at (.ro 5 (.int .u8) a0))), (3, .c (.at (.own 0))), (4, .c (.at (.own 1)))], H := [(0, .row 238 (.int .u32) v1 false), (1, .row 5 (.int .u8) v2 false)], nx := 2, n := 86, pin := [] }
noncomputable def K6 (N : Nat) (o0 : Orc E R) : KT E R := kAt T (G N) live [] o0 code [1, 1, 1, 1, 0, 1, 0] (kfin T Tryz.f212 (sp N))
noncomputable def St6 (a0 : List Int) : (Int × (List Int) × (List Int)) → St E
  | (v1, v2, v3) => { ρ := [(0, .c (.at (.ro 5 (.int .u8) a0))), (3, .c (.at (.own 0))), (4, .c (.at (.own 1))), (5, .c (.at (.int .i64 v1)))], H := [(0, .row 238 (.int .u32) v2 false), (1, .row 5 (.int .u8) v3 false)], nx := 2, n := 86, pin := [] }
noncomputable def K11 (N : Nat) (o0 : Orc E R) : KT E R := kAt T (G N) live [] o0 code [1, 1, 1, 1, 1, 1, 0, 1, 0] (kfin T Tryz.f212 (sp N))
noncomputable def St11 (a0 : List Int) : (Int × (List Int) × (List Int) × (List Int)) → St E
  | (v0, v1, v2, v3) => { ρ := [(3, .c (.at (.own 0))), (4, .c (.at (.own 1))), (6, .c (.at (.own 2))), (7, .c (.at (.int .i64 v0)))], H := [(0, .row 238 (.int .u32) v1 false), (1, .row 5 (.int .u8) v2 false), (2, .row 238 (.int .u32) v3 false)], nx := 3, n := 86, pin := [] }
noncomputable def K16 (N : Nat) (o0 : Orc E R) : KT E R := kAt T (G N) live [] o0 code [1, 1, 1, 1, 1, 1, 1, 1, 0, 1, 0] (kfin T Tryz.f212 (sp N))
noncomputable def St16 (a0 : List Int) : (Int × (List Int) × (List Int)) → St E
  | (v0, v1, v2) => { ρ := [(3, .c (.at (.own 0))), (8, .c (.at (.own 1))), (9, .c (.at (.int .i64 v0)))], H := [(0, .row 238 (.int .u32) v1 false), (1, .row 5 (.int .u8) v2 false)], nx := 2, n := 86, pin := [] }
noncomputable def m0 (N : Nat) (a0 : List Int) (lp3 : (List Int) × (List Int) → Option R) : Option R :=
  (let w1 : List Int := [(1779033703:Int), (3144134277:Int), (1013904242:Int), (2773480762:Int), (1359893119:Int), (2600822924:Int), (528734635:Int), (1541459225:Int)]
  bif (room (([] : List Int).length + a0.length) 1) then
  bif (room ((([] : List Int) ++ a0).length + ([(128:Int)]).length) 1) then
  lp3 (w1, ((([] : List Int) ++ a0) ++ [(128:Int)]))
  else none
  else none)
theorem run (N : Nat) (o0 : Orc E R) (a0 : List Int) : runF T (G N) live [] Tryz.f212 code (sp N) o0 (a0, ()) = m0 N a0 (fun a => o0 loop3 (K3 N o0) (St3 a0 a)) := by kernel_rfl
theorem body3_0 (N : Nat) (o0 : Orc E R) (o1 : Orc E R) (q1 : St E → Option R) (a0 : List Int) (v1 : List Int) (v2 : List Int) : runA T (G N) live [] o1 body3 (St3 a0 (v1, v2)) (kloop [0, 3, 4] q1 (K3 N o0)) = step3 N a0 (fun a => o0 loop6 (K6 N o0) (St6 a0 a)) (fun a => q1 (St3 a0 a)) (v1, v2) := by kernel_rfl
theorem body6_0 (N : Nat) (o0 : Orc E R) (o1 : Orc E R) (q1 : St E → Option R) (a0 : List Int) (v1 : Int) (v2 : List Int) (v3 : List Int) : runA T (G N) live [] o1 body6 (St6 a0 (v1, v2, v3)) (kloop [0, 3, 4, 5] q1 (K6 N o0)) = step6 N a0 (fun a => o0 loop11 (K11 N o0) (St11 a0 a)) (fun a => q1 (St6 a0 a)) (v1, v2, v3) := by kernel_rfl
theorem body11_0 (N : Nat) (o0 : Orc E R) (o1 : Orc E R) (q1 : St E → Option R) (a0 : List Int) (v0 : Int) (v1 : List Int) (v2 : List Int) (v3 : List Int) : runA T (G N) live [] o1 body11 (St11 a0 (v0, v1, v2, v3)) (kloop [3, 4, 6, 7] q1 (K11 N o0)) = step11 N a0 (fun a => o0 loop16 (K16 N o0) (St16 a0 a)) (fun a => q1 (St11 a0 a)) (v0, v1, v2, v3) := by kernel_rfl
theorem body16_0 (N : Nat) (o0 : Orc E R) (o1 : Orc E R) (q1 : St E → Option R) (a0 : List Int) (v0 : Int) (v1 : List Int) (v2 : List Int) : runA T (G N) live [] o1 body16 (St16 a0 (v0, v1, v2)) (kloop [3, 8, 9] q1 (K16 N o0)) = step16 N a0 (fun a => q1 (St16 a0 a)) (v0, v1, v2) := by kernel_rfl
theorem lp16_eq (N : Nat) (a0 : List Int) (a : Int × (List Int) × (List Int)) : (orc T (G N) live [] N 2) loop16 (K16 N (orc T (G N) live [] N 2)) (St16 a0 a) = lp16 N a0 a :=
  (orc_loop (b := body16) (live := [3, 8, 9]) (by kernel_rfl)).trans (iter_eq (St16 a0) _ _ (fun q1 a => by
    have hc := congrFun (congrFun (rfl : (step16 N a0) = (step16 N a0)) (fun a => q1 (St16 a0 a))) a
    obtain ⟨u0, u1, u2⟩ := a
    exact (body16_0 N (orc T (G N) live [] N 2) (orc T (G N) live [] N 1) q1 a0 u0 u1 u2).trans hc) N a)
theorem lp11_eq (N : Nat) (a0 : List Int) (a : Int × (List Int) × (List Int) × (List Int)) : (orc T (G N) live [] N 2) loop11 (K11 N (orc T (G N) live [] N 2)) (St11 a0 a) = lp11 N a0 a :=
  (orc_loop (b := body11) (live := [3, 4, 6, 7]) (by kernel_rfl)).trans (iter_eq (St11 a0) _ _ (fun q1 a => by
    have hc := congrFun (congrFun (congrArg (step11 N a0) (funext fun a => lp16_eq N a0 a)) (fun a => q1 (St11 a0 a))) a
    obtain ⟨u0, u1, u2, u3⟩ := a
    exact (body11_0 N (orc T (G N) live [] N 2) (orc T (G N) live [] N 1) q1 a0 u0 u1 u2 u3).trans hc) N a)
theorem lp6_eq (N : Nat) (a0 : List Int) (a : Int × (List Int) × (List Int)) : (orc T (G N) live [] N 2) loop6 (K6 N (orc T (G N) live [] N 2)) (St6 a0 a) = lp6 N a0 a :=
  (orc_loop (b := body6) (live := [0, 3, 4, 5]) (by kernel_rfl)).trans (iter_eq (St6 a0) _ _ (fun q1 a => by
    have hc := congrFun (congrFun (congrArg (step6 N a0) (funext fun a => lp11_eq N a0 a)) (fun a => q1 (St6 a0 a))) a
    obtain ⟨u0, u1, u2⟩ := a
    exact (body6_0 N (orc T (G N) live [] N 2) (orc T (G N) live [] N 1) q1 a0 u0 u1 u2).trans hc) N a)
theorem lp3_eq (N : Nat) (a0 : List Int) (a : (List Int) × (List Int)) : (orc T (G N) live [] N 2) loop3 (K3 N (orc T (G N) live [] N 2)) (St3 a0 a) = lp3 N a0 a :=
  (orc_loop (b := body3) (live := [0, 3, 4]) (by kernel_rfl)).trans (iter_eq (St3 a0) _ _ (fun q1 a => by
    have hc := congrFun (congrFun (congrArg (step3 N a0) (funext fun a => lp6_eq N a0 a)) (fun a => q1 (St3 a0 a))) a
    obtain ⟨u0, u1⟩ := a
    exact (body3_0 N (orc T (G N) live [] N 2) (orc T (G N) live [] N 1) q1 a0 u0 u1).trans hc) N a)
theorem G_ok (N : Nat) : GamOK Tryz.prog (G N) := gam_ok (l := [(252, [], spec_l01Consts.sp N), (253, [], spec_l01Block.sp N)]) (⟨spec_l01Consts.snd N, spec_l01Block.snd N, trivial⟩)
theorem snd (N : Nat) : Sound Tryz.prog E 212 (sp N) :=
  Mir.sound T_OK (G_ok N) mixed Tryz.func212 (c := code) (by kernel_rfl) (by kernel_rfl) (sp N) (Nat.le_of_ble_eq_true (by kernel_rfl)) live [] (by
    rintro ⟨a0, _⟩ r h
    exact ⟨N, 2, ((run N _ a0).trans (congrArg (m0 N a0) (funext fun a => lp3_eq N a0 a))).trans h⟩)
end spec_l01Hash
namespace spec_l07Hash
noncomputable def code : Code := Tryz.f158.body.getD .skip
abbrev live : Live := []
noncomputable def G (N : Nat) : Ctx E := gam [(212, [], spec_l01Hash.sp N)]
noncomputable def m0 (N : Nat) (a0 : ByteArray) : Option R :=
  bif (room a0.size 1) then
  ob (spec_l01Hash.m N (bytesOf a0)) fun y1 =>
  some y1
  else none
theorem run (N : Nat) (o0 : Orc E R) (a0 : ByteArray) : runF T (G N) live [] Tryz.f158 code (sp N) o0 (a0, ()) = m0 N a0 := by kernel_rfl
theorem G_ok (N : Nat) : GamOK Tryz.prog (G N) := gam_ok (l := [(212, [], spec_l01Hash.sp N)]) (⟨spec_l01Hash.snd N, trivial⟩)
theorem snd (N : Nat) : Sound Tryz.prog E 158 (sp N) :=
  Mir.sound T_OK (G_ok N) mixed Tryz.func158 (c := code) (by kernel_rfl) (by kernel_rfl) (sp N) (Nat.le_of_ble_eq_true (by kernel_rfl)) live [] (by
    rintro ⟨a0, _⟩ r h
    exact ⟨N, 2, ((run N _ a0).trans rfl).trans h⟩)
end spec_l07Hash
namespace spec_l01Bits
noncomputable def code : Code := Tryz.f217.body.getD .skip
abbrev live : Live := [(6, [0, 3, 4, 5]), (3, [0, 3, 4])]
noncomputable def G (N : Nat) : Ctx E := gam []
noncomputable def loop3 : Code := codeAt code [1, 1, 0, 1, 0]
noncomputable def body3 : Code := codeAt loop3 [0]
noncomputable def loop6 : Code := codeAt body3 [1, 0, 0, 1, 0]
noncomputable def body6 : Code := codeAt loop6 [0]
noncomputable def K3 (N : Nat) (o0 : Orc E R) : KT E R := kAt T (G N) live [] o0 code [1, 1, 0, 1, 0] (kfin T Tryz.f217 (sp N))
noncomputable def St3 (a0 : ByteArray) : (Int × (List Int)) → St E
  | (v1, v2) => { ρ := [(0, .c (.at (.str a0))), (3, .c (.at (.own 0))), (4, .c (.at (.int .i64 v1)))], H := [(0, .row 5 (.int .u8) v2 false)], nx := 1, n := 30, pin := [] }
noncomputable def K6 (N : Nat) (o0 : Orc E R) (o1 : Orc E R) (q1 : St E → Option R) : KT E R := kAt T (G N) live [] o1 body3 [1, 0, 0, 1, 0] (kloop [0, 3, 4] q1 (K3 N o0))
noncomputable def St6 (a0 : ByteArray) : (Int × Int × (List Int)) → St E
  | (v1, v2, v3) => { ρ := [(0, .c (.at (.str a0))), (3, .c (.at (.own 0))), (4, .c (.at (.int .i64 v1))), (5, .c (.at (.int .i64 v2)))], H := [(0, .row 5 (.int .u8) v3 false)], nx := 1, n := 30, pin := [] }
noncomputable def m0 (N : Nat) (a0 : ByteArray) (lp3 : Int × (List Int) → Option R) : Option R :=
  lp3 ((0:Int), ([] : List Int))
theorem run (N : Nat) (o0 : Orc E R) (a0 : ByteArray) : runF T (G N) live [] Tryz.f217 code (sp N) o0 (a0, ()) = m0 N a0 (fun a => o0 loop3 (K3 N o0) (St3 a0 a)) := by kernel_rfl
theorem body3_0 (N : Nat) (o0 : Orc E R) (o1 : Orc E R) (q1 : St E → Option R) (a0 : ByteArray) (v1 : Int) (v2 : List Int) : runA T (G N) live [] o1 body3 (St3 a0 (v1, v2)) (kloop [0, 3, 4] q1 (K3 N o0)) = step3 N a0 (fun a => o1 loop6 (K6 N o0 o1 q1) (St6 a0 a)) (fun a => q1 (St3 a0 a)) (v1, v2) := by kernel_rfl
theorem body6_0 (N : Nat) (o0 : Orc E R) (o1 : Orc E R) (o2 : Orc E R) (q1 : St E → Option R) (q2 : St E → Option R) (a0 : ByteArray) (v1 : Int) (v2 : Int) (v3 : List Int) : runA T (G N) live [] o2 body6 (St6 a0 (v1, v2, v3)) (kloop [0, 3, 4, 5] q2 (K6 N o0 o1 q1)) = step6 N a0 (fun a => q1 (St3 a0 a)) (fun a => q2 (St6 a0 a)) (v1, v2, v3) := by kernel_rfl
theorem lp6_eq (N : Nat) (a0 : ByteArray) (q1 : St E → Option R) (a : Int × Int × (List Int)) : (orc T (G N) live [] N 2) loop6 (K6 N (orc T (G N) live [] N 3) (orc T (G N) live [] N 2) q1) (St6 a0 a) = lp6 N a0 (fun a => q1 (St3 a0 a)) a :=
  (orc_loop (b := body6) (live := [0, 3, 4, 5]) (by kernel_rfl)).trans (iter_eq (St6 a0) _ _ (fun q2 a => by
    have hc := congrFun (congrFun (congrArg (step6 N a0) (Eq.refl (fun a => q1 (St3 a0 a)))) (fun a => q2 (St6 a0 a))) a
    obtain ⟨u0, u1, u2⟩ := a
    exact (body6_0 N (orc T (G N) live [] N 3) (orc T (G N) live [] N 2) (orc T (G N) live [] N 1) q1 q2 a0 u0 u1 u2).trans hc) N a)
theorem lp3_eq (N : Nat) (a0 : ByteArray) (a : Int × (List Int)) : (orc T (G N) live [] N 3) loop3 (K3 N (orc T (G N) live [] N 3)) (St3 a0 a) = lp3 N a0 a :=
  (orc_loop (b := body3) (live := [0, 3, 4]) (by kernel_rfl)).trans (iter_eq (St3 a0) _ _ (fun q1 a => by
    have hc := congrFun (congrFun (congrArg (step3 N a0) (funext fun a => lp6_eq N a0 q1 a)) (fun a => q1 (St3 a0 a))) a
    obtain ⟨u0, u1⟩ := a
    exact (body3_0 N (orc T (G N) live [] N 3) (orc T (G N) live [] N 2) q1 a0 u0 u1).trans hc) N a)
theorem G_ok (N : Nat) : GamOK Tryz.prog (G N) := gam_ok (l := []) (trivial)
theorem snd (N : Nat) : Sound Tryz.prog E 217 (sp N) :=
  Mir.sound T_OK (G_ok N) mixed Tryz.func217 (c := code) (by kernel_rfl) (by kernel_rfl) (sp N) (Nat.le_of_ble_eq_true (by kernel_rfl)) live [] (by
    rintro ⟨a0, _⟩ r h
    exact ⟨N, 3, ((run N _ a0).trans (congrArg (m0 N a0) (funext fun a => lp3_eq N a0 a))).trans h⟩)
end spec_l01Bits
namespace spec_l01In
noncomputable def code : Code := Tryz.f94.body.getD .skip
abbrev live : Live := []
noncomputable def G (N : Nat) : Ctx E := gam []
noncomputable def m0 (N : Nat) (a0 : Int) (a1 : Int) (a2 : Int) : Option R :=
  bif (decide (a0 ≥ a1)) then
    some (bif true then (decide (a0 ≤ a2)) else false)
  else
  some false
theorem run (N : Nat) (o0 : Orc E R) (a0 : Int) (a1 : Int) (a2 : Int) : runF T (G N) live [] Tryz.f94 code (sp N) o0 (a0, a1, a2, ()) = m0 N a0 a1 a2 := by kernel_rfl
theorem G_ok (N : Nat) : GamOK Tryz.prog (G N) := gam_ok (l := []) (trivial)
theorem snd (N : Nat) : Sound Tryz.prog E 94 (sp N) :=
  Mir.sound T_OK (G_ok N) mixed Tryz.func94 (c := code) (by kernel_rfl) (by kernel_rfl) (sp N) (Nat.le_of_ble_eq_true (by kernel_rfl)) live [] (by
    rintro ⟨a0, a1, a2, _⟩ r h
    exact ⟨N, 2, ((run N _ a0 a1 a2).trans rfl).trans h⟩)
end spec_l01In
end Mir.Y
