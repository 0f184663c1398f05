/- Models of functions and their soundness. -/
import Derived.Test.YtfgcbamnclkiiaaY1
namespace Mir.Y
set_option linter.unusedVariables false
set_option maxRecDepth 10000
open Go Go.Proofs Mir
/-! ### F71: loop.example/g00220/laws.eqCommand -/
namespace F71
abbrev R := Bool
noncomputable def m (N : Nat) (a0 : Command) (a1 : Command) : Option R :=
  bif (a0.Kind != a1.Kind) then
    some false
  else
  bif (a0.Session != a1.Session) then
    some false
  else
  bif (a0.Seq != a1.Seq) then
    some false
  else
  bif (!seq a0.Key a1.Key) then
    some false
  else
  bif (!seq a0.Value a1.Value) then
    some false
  else
  some true
@[reducible] noncomputable def sp (N : Nat) : Spec E := { ps := [.val (.st 74), .val (.st 74)], rs := [.bool], own := true, R := R, fn := fun x => m N x.1 x.2.1, res := fun r => (r, ()), out := fun r => ((), (), ()), shut := fun a b => a.1, res_shut := fun _ _ => rfl, out_shut := fun _ _ => rfl }
end F71
namespace F71
noncomputable def code : Code := Try.f71.body.getD .skip
abbrev live : Live := []
noncomputable def G (N : Nat) : Ctx E := gam []
noncomputable def m0 (N : Nat) (a0 : Command) (a1 : Command) : Option R :=
  bif (a0.Kind != a1.Kind) then
    some false
  else
  bif (a0.Session != a1.Session) then
    some false
  else
  bif (a0.Seq != a1.Seq) then
    some false
  else
  bif (!seq a0.Key a1.Key) then
    some false
  else
  bif (!seq a0.Value a1.Value) then
    some false
  else
  some true
theorem run (N : Nat) (o0 : Orc E R) (a0 : Command) (a1 : Command) : runF T (G N) live [] Try.f71 code (sp N) o0 (a0, a1, ()) = m0 N a0 a1 := by kernel_rfl
theorem G_ok (N : Nat) : GamOK Try.prog (G N) := gam_ok (l := []) (trivial)
theorem snd (N : Nat) : Sound Try.prog E 71 (sp N) :=
  Mir.sound T_OK (G_ok N) mixed Try.func71 (c := code) (by kernel_rfl) (by kernel_rfl) (sp N) (Nat.le_of_ble_eq_true (by kernel_rfl)) live [] (by
    rintro ⟨a0, a1, _⟩ r h
    exact ⟨N, 2, ((run N _ a0 a1).trans rfl).trans h⟩)
end F71
/-! ### F72: loop.example/g00220/laws.eqReply -/
namespace F72
abbrev R := Bool
noncomputable def m (N : Nat) (a0 : Reply) (a1 : Reply) : Option R :=
  bif (a0.Kind != a1.Kind) then
    some false
  else
  bif (a0.Place != a1.Place) then
    some false
  else
  bif (!seq a0.Value a1.Value) then
    some false
  else
  some true
@[reducible] noncomputable def sp (N : Nat) : Spec E := { ps := [.val (.st 75), .val (.st 75)], rs := [.bool], own := true, R := R, fn := fun x => m N x.1 x.2.1, res := fun r => (r, ()), out := fun r => ((), (), ()), shut := fun a b => a.1, res_shut := fun _ _ => rfl, out_shut := fun _ _ => rfl }
end F72
namespace F72
noncomputable def code : Code := Try.f72.body.getD .skip
abbrev live : Live := []
noncomputable def G (N : Nat) : Ctx E := gam []
noncomputable def m0 (N : Nat) (a0 : Reply) (a1 : Reply) : Option R :=
  bif (a0.Kind != a1.Kind) then
    some false
  else
  bif (a0.Place != a1.Place) then
    some false
  else
  bif (!seq a0.Value a1.Value) then
    some false
  else
  some true
theorem run (N : Nat) (o0 : Orc E R) (a0 : Reply) (a1 : Reply) : runF T (G N) live [] Try.f72 code (sp N) o0 (a0, a1, ()) = m0 N a0 a1 := by kernel_rfl
theorem G_ok (N : Nat) : GamOK Try.prog (G N) := gam_ok (l := []) (trivial)
theorem snd (N : Nat) : Sound Try.prog E 72 (sp N) :=
  Mir.sound T_OK (G_ok N) mixed Try.func72 (c := code) (by kernel_rfl) (by kernel_rfl) (sp N) (Nat.le_of_ble_eq_true (by kernel_rfl)) live [] (by
    rintro ⟨a0, a1, _⟩ r h
    exact ⟨N, 2, ((run N _ a0 a1).trans rfl).trans h⟩)
end F72
/-! ### F43: loop.example/g00220/laws.eqCallRecord -/
namespace F43
abbrev R := Bool
noncomputable def m (N : Nat) (a0 : CallRecord) (a1 : CallRecord) : Option R :=
  bif (a0.Client != a1.Client) then
    some false
  else
  bif (a0.Begin != a1.Begin) then
    some false
  else
  bif (a0.End != a1.End) then
    some false
  else
  ob (F71.m N (Command.mk a0.Command.Kind a0.Command.Session a0.Command.Seq a0.Command.Key a0.Command.Value) (Command.mk a1.Command.Kind a1.Command.Session a1.Command.Seq a1.Command.Key a1.Command.Value)) fun y1 =>
  bif (!y1) then
    some false
  else
  ob (F72.m N (Reply.mk a0.Answer.Kind a0.Answer.Place a0.Answer.Value) (Reply.mk a1.Answer.Kind a1.Answer.Place a1.Answer.Value)) fun y2 =>
  bif (!y2) then
    some false
  else
  some true
@[reducible] noncomputable def sp (N : Nat) : Spec E := { ps := [.val (.st 77), .val (.st 77)], rs := [.bool], own := true, R := R, fn := fun x => m N x.1 x.2.1, res := fun r => (r, ()), out := fun r => ((), (), ()), shut := fun a b => a.1, res_shut := fun _ _ => rfl, out_shut := fun _ _ => rfl }
end F43
namespace F43
noncomputable def code : Code := Try.f43.body.getD .skip
abbrev live : Live := []
noncomputable def G (N : Nat) : Ctx E := gam [(71, [], F71.sp N), (72, [], F72.sp N)]
noncomputable def m0 (N : Nat) (a0 : CallRecord) (a1 : CallRecord) : Option R :=
  bif (a0.Client != a1.Client) then
    some false
  else
  bif (a0.Begin != a1.Begin) then
    some false
  else
  bif (a0.End != a1.End) then
    some false
  else
  ob (F71.m N (Command.mk a0.Command.Kind a0.Command.Session a0.Command.Seq a0.Command.Key a0.Command.Value) (Command.mk a1.Command.Kind a1.Command.Session a1.Command.Seq a1.Command.Key a1.Command.Value)) fun y1 =>
  bif (!y1) then
    some false
  else
  ob (F72.m N (Reply.mk a0.Answer.Kind a0.Answer.Place a0.Answer.Value) (Reply.mk a1.Answer.Kind a1.Answer.Place a1.Answer.Value)) fun y2 =>
  bif (!y2) then
    some false
  else
  some true
theorem run (N : Nat) (o0 : Orc E R) (a0 : CallRecord) (a1 : CallRecord) : runF T (G N) live [] Try.f43 code (sp N) o0 (a0, a1, ()) = m0 N a0 a1 := by kernel_rfl
theorem G_ok (N : Nat) : GamOK Try.prog (G N) := gam_ok (l := [(71, [], F71.sp N), (72, [], F72.sp N)]) (⟨F71.snd N, F72.snd N, trivial⟩)
theorem snd (N : Nat) : Sound Try.prog E 43 (sp N) :=
  Mir.sound T_OK (G_ok N) mixed Try.func43 (c := code) (by kernel_rfl) (by kernel_rfl) (sp N) (Nat.le_of_ble_eq_true (by kernel_rfl)) live [] (by
    rintro ⟨a0, a1, _⟩ r h
    exact ⟨N, 2, ((run N _ a0 a1).trans rfl).trans h⟩)
end F43
/-! ### F17: loop.example/g00220/laws.eqCallRecordS -/
namespace F17
abbrev R := Bool
noncomputable def step4 (N : Nat) (a0 : List CallRecord) (a1 : List CallRecord) (rec : Int → Option R) : Int → Option R
  | v2 =>
    bif (decide (v2 < (a0.length : Int))) then
      bif (decide (0 ≤ v2)) then
      bif (decide (v2 < (a0.length : Int))) then
      bif (decide (0 ≤ v2)) then
      bif (decide (v2 < (a1.length : Int))) then
      ob (F43.m N (CallRecord.mk ((a0.getD (Int.toNat v2) CallRecord.dz).Client) ((a0.getD (Int.toNat v2) CallRecord.dz).Begin) ((a0.getD (Int.toNat v2) CallRecord.dz).End) (Command.mk ((a0.getD (Int.toNat v2) CallRecord.dz).Command.Kind) ((a0.getD (Int.toNat v2) CallRecord.dz).Command.Session) ((a0.getD (Int.toNat v2) CallRecord.dz).Command.Seq) ((a0.getD (Int.toNat v2) CallRecord.dz).Command.Key) ((a0.getD (Int.toNat v2) CallRecord.dz).Command.Value)) (Reply.mk ((a0.getD (Int.toNat v2) CallRecord.dz).Answer.Kind) ((a0.getD (Int.toNat v2) CallRecord.dz).Answer.Place) ((a0.getD (Int.toNat v2) CallRecord.dz).Answer.Value))) (CallRecord.mk ((a1.getD (Int.toNat v2) CallRecord.dz).Client) ((a1.getD (Int.toNat v2) CallRecord.dz).Begin) ((a1.getD (Int.toNat v2) CallRecord.dz).End) (Command.mk ((a1.getD (Int.toNat v2) CallRecord.dz).Command.Kind) ((a1.getD (Int.toNat v2) CallRecord.dz).Command.Session) ((a1.getD (Int.toNat v2) CallRecord.dz).Command.Seq) ((a1.getD (Int.toNat v2) CallRecord.dz).Command.Key) ((a1.getD (Int.toNat v2) CallRecord.dz).Command.Value)) (Reply.mk ((a1.getD (Int.toNat v2) CallRecord.dz).Answer.Kind) ((a1.getD (Int.toNat v2) CallRecord.dz).Answer.Place) ((a1.getD (Int.toNat v2) CallRecord.dz).Answer.Value)))) fun y1 =>
      bif (!y1) then
        some false
      else
      rec (w64 (v2 + (1:Int)))
      else none
      else none
      else none
      else none
    else
    some true
noncomputable def lp4 (N : Nat) (a0 : List CallRecord) (a1 : List CallRecord) : Int → Option R :=
  miter (fun rec => step4 N a0 a1 rec) N
noncomputable def m (N : Nat) (a0 : List CallRecord) (a1 : List CallRecord) : Option R :=
  bif ((a0.length : Int) != (a1.length : Int)) then
    some false
  else
  lp4 N a0 a1 (0:Int)
@[reducible] noncomputable def sp (N : Nat) : Spec E := { ps := [.val (.slice 77 (.st 77)), .val (.slice 77 (.st 77))], rs := [.bool], own := true, R := R, fn := fun x => m N x.1 x.2.1, res := fun r => (r, ()), out := fun r => ((), (), ()), shut := fun a b => a.1, res_shut := fun _ _ => rfl, out_shut := fun _ _ => rfl }
end F17
namespace F17
noncomputable def code : Code := Try.f17.body.getD .skip
abbrev live : Live := [(4, [0, 1, 5])]
noncomputable def G (N : Nat) : Ctx E := gam [(43, [], F43.sp N)]
noncomputable def loop4 : Code := codeAt code [1, 1, 0, 1, 0]
noncomputable def body4 : Code := codeAt loop4 [0]
noncomputable def K4 (N : Nat) (o0 : Orc E R) : KT E R := kAt T (G N) live [] o0 code [1, 1, 0, 1, 0] (kfin T Try.f17 (sp N))
noncomputable def St4 (a0 : List CallRecord) (a1 : List CallRecord) : Int → St E
  | v2 => { ρ := [(0, .c (.at (.ro 77 (.st 77) a0))), (1, .c (.at (.ro 77 (.st 77) a1))), (5, .c (.at (.int .i64 v2)))], H := [], nx := 0, n := 27, pin := [] }
noncomputable def m0 (N : Nat) (a0 : List CallRecord) (a1 : List CallRecord) (lp4 : Int → Option R) : Option R :=
  bif ((a0.length : Int) != (a1.length : Int)) then
    some false
  else
  lp4 (0:Int)
theorem run (N : Nat) (o0 : Orc E R) (a0 : List CallRecord) (a1 : List CallRecord) : runF T (G N) live [] Try.f17 code (sp N) o0 (a0, a1, ()) = m0 N a0 a1 (fun a => o0 loop4 (K4 N o0) (St4 a0 a1 a)) := by kernel_rfl
theorem body4_0 (N : Nat) (o0 : Orc E R) (o1 : Orc E R) (q1 : St E → Option R) (a0 : List CallRecord) (a1 : List CallRecord) (v2 : Int) : runA T (G N) live [] o1 body4 (St4 a0 a1 v2) (kloop [0, 1, 5] q1 (K4 N o0)) = step4 N a0 a1 (fun a => q1 (St4 a0 a1 a)) v2 := by kernel_rfl
theorem lp4_eq (N : Nat) (a0 : List CallRecord) (a1 : List CallRecord) (a : Int) : (orc T (G N) live [] N 2) loop4 (K4 N (orc T (G N) live [] N 2)) (St4 a0 a1 a) = lp4 N a0 a1 a :=
  (orc_loop (b := body4) (live := [0, 1, 5]) (by kernel_rfl)).trans (iter_eq (St4 a0 a1) _ _ (fun q1 a => by
    have hc := congrFun (congrFun (rfl : (step4 N a0 a1) = (step4 N a0 a1)) (fun a => q1 (St4 a0 a1 a))) a
    exact (body4_0 N (orc T (G N) live [] N 2) (orc T (G N) live [] N 1) q1 a0 a1 a).trans hc) N a)
theorem G_ok (N : Nat) : GamOK Try.prog (G N) := gam_ok (l := [(43, [], F43.sp N)]) (⟨F43.snd N, trivial⟩)
theorem snd (N : Nat) : Sound Try.prog E 17 (sp N) :=
  Mir.sound T_OK (G_ok N) mixed Try.func17 (c := code) (by kernel_rfl) (by kernel_rfl) (sp N) (Nat.le_of_ble_eq_true (by kernel_rfl)) live [] (by
    rintro ⟨a0, a1, _⟩ r h
    exact ⟨N, 2, ((run N _ a0 a1).trans (congrArg (m0 N a0 a1) (funext fun a => lp4_eq N a0 a1 a))).trans h⟩)
end F17
/-! ### F4: loop.example/g00220/laws.FnExactPendingCall -/
namespace F4
abbrev R := Bool
noncomputable def m (N : Nat) (a0 : List CallRecord) (a1 : Int) : Option R :=
  ob (F13.m N a0 (1048576:Int)) fun y1 =>
  bif (decide (y1 < (0:Int))) then
    some true
  else
  ob (F15.m N a0) fun y2 =>
  ob (F14.m N y2 a1) fun y3 =>
  ob (F15.m N a0) fun y4 =>
  ob (F16.m N y4 a1) fun y5 =>
  bif (y5.1 != y3.1) then
    some false
  else
  bif (bif false then true else (y5.2 != y3.2)) then
    some false
  else
  ob (F15.m N a0) fun y6 =>
  ob (F17.m N y4 y6) fun y7 =>
  bif (!y7) then
    some false
  else
  some true
@[reducible] noncomputable def sp (N : Nat) : Spec E := { ps := [.val (.slice 71 (.st 71)), .val (.int .i64)], rs := [.bool], own := true, R := R, fn := fun x => m N x.1 x.2.1, res := fun r => (r, ()), out := fun r => ((), (), ()), shut := fun a b => a.1, res_shut := fun _ _ => rfl, out_shut := fun _ _ => rfl }
end F4
namespace F4
noncomputable def code : Code := Try.f4.body.getD .skip
abbrev live : Live := []
noncomputable def G (N : Nat) : Ctx E := gam [(13, [], F13.sp N), (15, [], F15.sp N), (14, [], F14.sp N), (16, [], F16.sp N), (17, [], F17.sp N)]
noncomputable def m0 (N : Nat) (a0 : List CallRecord) (a1 : Int) : Option R :=
  ob (F13.m N a0 (1048576:Int)) fun y1 =>
  bif (decide (y1 < (0:Int))) then
    some true
  else
  ob (F15.m N a0) fun y2 =>
  ob (F14.m N y2 a1) fun y3 =>
  ob (F15.m N a0) fun y4 =>
  ob (F16.m N y4 a1) fun y5 =>
  bif (y5.1 != y3.1) then
    some false
  else
  bif (bif false then true else (y5.2 != y3.2)) then
    some false
  else
  ob (F15.m N a0) fun y6 =>
  ob (F17.m N y4 y6) fun y7 =>
  bif (!y7) then
    some false
  else
  some true
theorem run (N : Nat) (o0 : Orc E R) (a0 : List CallRecord) (a1 : Int) : runF T (G N) live [] Try.f4 code (sp N) o0 (a0, a1, ()) = m0 N a0 a1 := by kernel_rfl
theorem G_ok (N : Nat) : GamOK Try.prog (G N) := gam_ok (l := [(13, [], F13.sp N), (15, [], F15.sp N), (14, [], F14.sp N), (16, [], F16.sp N), (17, [], F17.sp N)]) (⟨F13.snd N, F15.snd N, F14.snd N, F16.snd N, F17.snd N, trivial⟩)
theorem snd (N : Nat) : Sound Try.prog E 4 (sp N) :=
  Mir.sound T_OK (G_ok N) mixed Try.func4 (c := code) (by kernel_rfl) (by kernel_rfl) (sp N) (Nat.le_of_ble_eq_true (by kernel_rfl)) live [] (by
    rintro ⟨a0, a1, _⟩ r h
    exact ⟨N, 2, ((run N _ a0 a1).trans rfl).trans h⟩)
end F4
end Mir.Y
