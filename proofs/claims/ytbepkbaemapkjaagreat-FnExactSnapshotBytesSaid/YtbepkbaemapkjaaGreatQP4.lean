/- The models are what the functions do. -/
import Derived.Test.YtbepkbaemapkjaaGreatQP3
namespace Mir.Y
set_option linter.unusedVariables false
set_option maxRecDepth 10000
open Go Go.Proofs Mir
namespace laws_markLedger
noncomputable def code : Code := Tryz.f18.body.getD .skip
abbrev live : Live := []
noncomputable def G (N : Nat) : Ctx E := gam [(57, [], laws_markStringS.sp N), (58, [], laws_markBranch.sp N), (59, [], laws_markSessionS.sp N)]
noncomputable def m0 (N : Nat) (a0 : Ledger) (a1 : Int) : Option R :=
  ob (laws_markStringS.m N a0.Leaves a1) fun y1 =>
  ob (laws_markBranch.m N (Branch.mk a0.Map.Key a0.Map.Value a0.Map.At a0.Map.Kids) y1.1) fun y2 =>
  ob (laws_markSessionS.m N a0.Sessions y2.1) fun y3 =>
  some (y3.1, (Ledger.mk y1.2 (Branch.mk a0.Map.Key a0.Map.Value a0.Map.At y2.2.Kids) y3.2))
theorem run (N : Nat) (o0 : Orc E R) (a0 : Ledger) (a1 : Int) : runF TD (G N) live [] Tryz.f18 code (sp N) o0 (a0, a1, ()) = m0 N a0 a1 := by kernel_rfl
theorem G_ok (N : Nat) : GamOK Tryz.prog (G N) := gam_ok (l := [(57, [], laws_markStringS.sp N), (58, [], laws_markBranch.sp N), (59, [], laws_markSessionS.sp N)]) (⟨laws_markStringS.snd N, laws_markBranch.snd N, laws_markSessionS.snd N, trivial⟩)
theorem snd (N : Nat) : Sound Tryz.prog E 18 (sp N) :=
  Mir.sound TD_OK (G_ok N) mixed Tryz.func18 (c := code) (by kernel_rfl) (by kernel_rfl) (sp N) (Nat.le_of_ble_eq_true (by kernel_rfl)) live [] (by
    rintro ⟨a0, a1, _⟩ r h
    exact ⟨N, 2, ((run N _ a0 a1).trans rfl).trans h⟩)
end laws_markLedger
namespace laws_markByteS
noncomputable def code : Code := Tryz.f32.body.getD .skip
abbrev live : Live := [(2, [0, 1, 5])]
noncomputable def G (N : Nat) : Ctx E := gam []
noncomputable def loop2 : Code := codeAt code [1, 0, 1, 0]
noncomputable def body2 : Code := codeAt loop2 [0]
noncomputable def K2 (N : Nat) (o0 : Orc E R) : KT E R := kAt T (G N) live [] o0 code [1, 0, 1, 0] (kfin T Tryz.f32 (sp N))
noncomputable def St2 (a0 : List Int) (a1 : Int) : (Int × Int × (List Int)) → St E
  | (v0, v1, v2) => { ρ := [(0, .c (.at (.own 0))), (1, .c (.at (.int .i64 v0))), (5, .c (.at (.int .i64 v1)))], H := [(0, .row 5 (.int .u8) v2 false)], nx := 1, n := 20, pin := [0] }
noncomputable def m0 (N : Nat) (a0 : List Int) (a1 : Int) (lp2 : Int × Int × (List Int) → Option R) : Option R :=
  lp2 (a1, (0:Int), a0)
theorem run (N : Nat) (o0 : Orc E R) (a0 : List Int) (a1 : Int) : runF T (G N) live [] Tryz.f32 code (sp N) o0 (a0, a1, ()) = m0 N a0 a1 (fun a => o0 loop2 (K2 N o0) (St2 a0 a1 a)) := by kernel_rfl
theorem body2_0 (N : Nat) (o0 : Orc E R) (o1 : Orc E R) (q1 : St E → Option R) (a0 : List Int) (a1 : Int) (v0 : Int) (v1 : Int) (v2 : List Int) : runA T (G N) live [] o1 body2 (St2 a0 a1 (v0, v1, v2)) (kloop [0, 1, 5] q1 (K2 N o0)) = step2 N a0 a1 (fun a => q1 (St2 a0 a1 a)) (v0, v1, v2) := by kernel_rfl
theorem lp2_eq (N : Nat) (a0 : List Int) (a1 : Int) (a : Int × Int × (List Int)) : (orc T (G N) live [] N 2) loop2 (K2 N (orc T (G N) live [] N 2)) (St2 a0 a1 a) = lp2 N a0 a1 a :=
  (orc_loop (b := body2) (live := [0, 1, 5]) (by kernel_rfl)).trans (iter_eq (St2 a0 a1) _ _ (fun q1 a => by
    have hc := congrFun (congrFun (rfl : (step2 N a0 a1) = (step2 N a0 a1)) (fun a => q1 (St2 a0 a1 a))) a
    obtain ⟨u0, u1, u2⟩ := a
    exact (body2_0 N (orc T (G N) live [] N 2) (orc T (G N) live [] N 1) q1 a0 a1 u0 u1 u2).trans hc) N a)
theorem G_ok (N : Nat) : GamOK Tryz.prog (G N) := gam_ok (l := []) (trivial)
theorem snd (N : Nat) : Sound Tryz.prog E 32 (sp N) :=
  Mir.sound T_OK (G_ok N) mixed Tryz.func32 (c := code) (by kernel_rfl) (by kernel_rfl) (sp N) (Nat.le_of_ble_eq_true (by kernel_rfl)) live [] (by
    rintro ⟨a0, a1, _⟩ r h
    exact ⟨N, 2, ((run N _ a0 a1).trans (congrArg (m0 N a0 a1) (funext fun a => lp2_eq N a0 a1 a))).trans h⟩)
end laws_markByteS
namespace laws_heldByteS
noncomputable def code : Code := Tryz.f33.body.getD .skip
abbrev live : Live := [(2, [0, 1, 5])]
noncomputable def G (N : Nat) : Ctx E := gam []
noncomputable def loop2 : Code := codeAt code [1, 0, 1, 0]
noncomputable def body2 : Code := codeAt loop2 [0]
noncomputable def K2 (N : Nat) (o0 : Orc E R) : KT E R := kAt T (G N) live [] o0 code [1, 0, 1, 0] (kfin T Tryz.f33 (sp N))
noncomputable def St2 (a0 : List Int) (a1 : Int) : (Int × Int) → St E
  | (v1, v2) => { ρ := [(0, .c (.at (.ro 5 (.int .u8) a0))), (1, .c (.at (.int .i64 v1))), (5, .c (.at (.int .i64 v2)))], H := [], nx := 0, n := 22, pin := [] }
noncomputable def m0 (N : Nat) (a0 : List Int) (a1 : Int) (lp2 : Int × Int → Option R) : Option R :=
  lp2 (a1, (0:Int))
theorem run (N : Nat) (o0 : Orc E R) (a0 : List Int) (a1 : Int) : runF T (G N) live [] Tryz.f33 code (sp N) o0 (a0, a1, ()) = m0 N a0 a1 (fun a => o0 loop2 (K2 N o0) (St2 a0 a1 a)) := by kernel_rfl
theorem body2_0 (N : Nat) (o0 : Orc E R) (o1 : Orc E R) (q1 : St E → Option R) (a0 : List Int) (a1 : Int) (v1 : Int) (v2 : Int) : runA T (G N) live [] o1 body2 (St2 a0 a1 (v1, v2)) (kloop [0, 1, 5] q1 (K2 N o0)) = step2 N a0 a1 (fun a => q1 (St2 a0 a1 a)) (v1, v2) := by kernel_rfl
theorem lp2_eq (N : Nat) (a0 : List Int) (a1 : Int) (a : Int × Int) : (orc T (G N) live [] N 2) loop2 (K2 N (orc T (G N) live [] N 2)) (St2 a0 a1 a) = lp2 N a0 a1 a :=
  (orc_loop (b := body2) (live := [0, 1, 5]) (by kernel_rfl)).trans (iter_eq (St2 a0 a1) _ _ (fun q1 a => by
    have hc := congrFun (congrFun (rfl : (step2 N a0 a1) = (step2 N a0 a1)) (fun a => q1 (St2 a0 a1 a))) a
    obtain ⟨u0, u1⟩ := a
    exact (body2_0 N (orc T (G N) live [] N 2) (orc T (G N) live [] N 1) q1 a0 a1 u0 u1).trans hc) N a)
theorem G_ok (N : Nat) : GamOK Tryz.prog (G N) := gam_ok (l := []) (trivial)
theorem snd (N : Nat) : Sound Tryz.prog E 33 (sp N) :=
  Mir.sound T_OK (G_ok N) mixed Tryz.func33 (c := code) (by kernel_rfl) (by kernel_rfl) (sp N) (Nat.le_of_ble_eq_true (by kernel_rfl)) live [] (by
    rintro ⟨a0, a1, _⟩ r h
    exact ⟨N, 2, ((run N _ a0 a1).trans (congrArg (m0 N a0 a1) (funext fun a => lp2_eq N a0 a1 a))).trans h⟩)
end laws_heldByteS
namespace laws_FnExactSnapshotBytes
noncomputable def code : Code := Tryz.f5.body.getD .skip
abbrev live : Live := []
noncomputable def G (N : Nat) : Ctx E := gam [(22, [], laws_szLedger.sp N), (25, [], laws_toLedger.sp N), (29, [], spec_SnapshotBytes.sp N), (30, [], impl_SnapshotBytes.sp N), (31, [], laws_eqByteS.sp N), (14, [], laws_eqLedger.sp N), (18, [], laws_markLedger.sp N), (32, [], laws_markByteS.sp N), (33, [], laws_heldByteS.sp N)]
noncomputable def m0 (N : Nat) (a0 : Ledger) : Option R :=
  ob (laws_szLedger.m N (Ledger.mk a0.Leaves (Branch.mk a0.Map.Key a0.Map.Value a0.Map.At a0.Map.Kids) a0.Sessions) (1048576:Int)) fun y1 =>
  bif (decide (y1 < (0:Int))) then
    some true
  else
  ob (laws_toLedger.m N (Ledger.mk a0.Leaves (Branch.mk a0.Map.Key a0.Map.Value a0.Map.At a0.Map.Kids) a0.Sessions)) fun y2 =>
  ob (spec_SnapshotBytes.m N (Ledger.mk y2.Leaves (Branch.mk y2.Map.Key y2.Map.Value y2.Map.At y2.Map.Kids) y2.Sessions)) fun y3 =>
  ob (laws_toLedger.m N (Ledger.mk a0.Leaves (Branch.mk a0.Map.Key a0.Map.Value a0.Map.At a0.Map.Kids) a0.Sessions)) fun y4 =>
  ob (impl_SnapshotBytes.m N (Ledger.mk y4.Leaves (Branch.mk y4.Map.Key y4.Map.Value y4.Map.At y4.Map.Kids) y4.Sessions)) fun y5 =>
  ob (laws_eqByteS.m N y5.1 y3.1) fun y6 =>
  bif (!y6) then
    some false
  else
  bif (bif false then true else (y5.2 != y3.2)) then
    some false
  else
  ob (laws_toLedger.m N (Ledger.mk a0.Leaves (Branch.mk a0.Map.Key a0.Map.Value a0.Map.At a0.Map.Kids) a0.Sessions)) fun y7 =>
  ob (laws_eqLedger.m N (Ledger.mk y4.Leaves (Branch.mk y4.Map.Key y4.Map.Value y4.Map.At y4.Map.Kids) y4.Sessions) (Ledger.mk y7.Leaves (Branch.mk y7.Map.Key y7.Map.Value y7.Map.At y7.Map.Kids) y7.Sessions)) fun y8 =>
  bif (!y8) then
    some false
  else
  ob (laws_markLedger.m N (Ledger.mk y4.Leaves (Branch.mk y4.Map.Key y4.Map.Value y4.Map.At y4.Map.Kids) y4.Sessions) (1:Int)) fun y9 =>
  bif (decide (y9.1 < (0:Int))) then
    some false
  else
  ob (laws_eqByteS.m N y5.1 y3.1) fun y10 =>
  bif (bif false then true else (!y10)) then
    some false
  else
  bif (bif false then true else (y5.2 != y3.2)) then
    some false
  else
  ob (laws_markByteS.m N y5.1 (1:Int)) fun y11 =>
  ob (laws_heldByteS.m N y11.2 (1:Int)) fun y12 =>
  bif (decide (y12 < (0:Int))) then
    some false
  else
  bif (y12 != y11.1) then
    some false
  else
  ob (laws_toLedger.m N (Ledger.mk a0.Leaves (Branch.mk a0.Map.Key a0.Map.Value a0.Map.At a0.Map.Kids) a0.Sessions)) fun y13 =>
  ob (impl_SnapshotBytes.m N (Ledger.mk y13.Leaves (Branch.mk y13.Map.Key y13.Map.Value y13.Map.At y13.Map.Kids) y13.Sessions)) fun y14 =>
  ob (laws_eqByteS.m N y14.1 y3.1) fun y15 =>
  bif (!y15) then
    some false
  else
  bif (bif false then true else (y14.2 != y3.2)) then
    some false
  else
  ob (laws_heldByteS.m N y11.2 (1:Int)) fun y16 =>
  bif (decide (y16 < (0:Int))) then
    some false
  else
  bif (y16 != y11.1) then
    some false
  else
  some true
theorem run (N : Nat) (o0 : Orc E R) (a0 : Ledger) : runF T (G N) live [] Tryz.f5 code (sp N) o0 (a0, ()) = m0 N a0 := by kernel_rfl
theorem G_ok (N : Nat) : GamOK Tryz.prog (G N) := gam_ok (l := [(22, [], laws_szLedger.sp N), (25, [], laws_toLedger.sp N), (29, [], spec_SnapshotBytes.sp N), (30, [], impl_SnapshotBytes.sp N), (31, [], laws_eqByteS.sp N), (14, [], laws_eqLedger.sp N), (18, [], laws_markLedger.sp N), (32, [], laws_markByteS.sp N), (33, [], laws_heldByteS.sp N)]) (⟨laws_szLedger.snd N, laws_toLedger.snd N, spec_SnapshotBytes.snd N, impl_SnapshotBytes.snd N, laws_eqByteS.snd N, laws_eqLedger.snd N, laws_markLedger.snd N, laws_markByteS.snd N, laws_heldByteS.snd N, trivial⟩)
theorem snd (N : Nat) : Sound Tryz.prog E 5 (sp N) :=
  Mir.sound T_OK (G_ok N) mixed Tryz.func5 (c := code) (by kernel_rfl) (by kernel_rfl) (sp N) (Nat.le_of_ble_eq_true (by kernel_rfl)) live [] (by
    rintro ⟨a0, _⟩ r h
    exact ⟨N, 2, ((run N _ a0).trans rfl).trans h⟩)
end laws_FnExactSnapshotBytes
end Mir.Y
