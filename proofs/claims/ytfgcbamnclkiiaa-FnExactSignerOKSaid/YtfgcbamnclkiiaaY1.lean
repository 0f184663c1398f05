/- Models of functions and their soundness. -/
import Derived.Test.YtfgcbamnclkiiaaY0
namespace Mir.Y
set_option linter.unusedVariables false
set_option maxRecDepth 10000
open Go Go.Proofs Mir
/-! ### F32: loop.example/g00220/laws.szBoolS -/
namespace F32
abbrev R := Int
noncomputable def m (N : Nat) (a0 : List Bool) (a1 : Int) : Option R :=
  bif (decide ((w64 (a1 - (a0.length : Int))) < (0:Int))) then
    some (-1:Int)
  else
  some (w64 (a1 - (a0.length : Int)))
@[reducible] noncomputable def sp (N : Nat) : Spec E := { ps := [.val (.slice 4 .bool), .val (.int .i64)], rs := [(.int .i64)], own := true, R := R, fn := fun x => m N x.1 x.2.1, res := fun r => (r, ()), out := fun r => ((), (), ()), shut := fun a b => a.1, res_shut := fun _ _ => rfl, out_shut := fun _ _ => rfl }
end F32
namespace F32
noncomputable def code : Code := Try.f32.body.getD .skip
abbrev live : Live := []
noncomputable def G (N : Nat) : Ctx E := gam []
noncomputable def m0 (N : Nat) (a0 : List Bool) (a1 : Int) : Option R :=
  bif (decide ((w64 (a1 - (a0.length : Int))) < (0:Int))) then
    some (-1:Int)
  else
  some (w64 (a1 - (a0.length : Int)))
theorem run (N : Nat) (o0 : Orc E R) (a0 : List Bool) (a1 : Int) : runF T (G N) live [] Try.f32 code (sp N) o0 (a0, a1, ()) = m0 N a0 a1 := by kernel_rfl
theorem G_ok (N : Nat) : GamOK Try.prog (G N) := gam_ok (l := []) (trivial)
theorem snd (N : Nat) : Sound Try.prog E 32 (sp N) :=
  Mir.sound T_OK (G_ok N) mixed Try.func32 (c := code) (by kernel_rfl) (by kernel_rfl) (sp N) (Nat.le_of_ble_eq_true (by kernel_rfl)) live [] (by
    rintro ⟨a0, a1, _⟩ r h
    exact ⟨N, 2, ((run N _ a0 a1).trans rfl).trans h⟩)
end F32
/-! ### F8: loop.example/g00220/laws.szSigner -/
namespace F8
abbrev R := Int
noncomputable def m (N : Nat) (a0 : Signer) (a1 : Int) : Option R :=
  bif (decide ((w64 (a1 - (a0.Seed.size : Int))) < (0:Int))) then
    some (-1:Int)
  else
  ob (F32.m N a0.Used (w64 (a1 - (a0.Seed.size : Int)))) fun y1 =>
  bif (decide (y1 < (0:Int))) then
    some (-1:Int)
  else
  some y1
@[reducible] noncomputable def sp (N : Nat) : Spec E := { ps := [.val (.st 24), .val (.int .i64)], rs := [(.int .i64)], own := true, R := R, fn := fun x => m N x.1 x.2.1, res := fun r => (r, ()), out := fun r => ((), (), ()), shut := fun a b => a.1, res_shut := fun _ _ => rfl, out_shut := fun _ _ => rfl }
end F8
namespace F8
noncomputable def code : Code := Try.f8.body.getD .skip
abbrev live : Live := []
noncomputable def G (N : Nat) : Ctx E := gam [(32, [], F32.sp N)]
noncomputable def m0 (N : Nat) (a0 : Signer) (a1 : Int) : Option R :=
  bif (decide ((w64 (a1 - (a0.Seed.size : Int))) < (0:Int))) then
    some (-1:Int)
  else
  ob (F32.m N a0.Used (w64 (a1 - (a0.Seed.size : Int)))) fun y1 =>
  bif (decide (y1 < (0:Int))) then
    some (-1:Int)
  else
  some y1
theorem run (N : Nat) (o0 : Orc E R) (a0 : Signer) (a1 : Int) : runF T (G N) live [] Try.f8 code (sp N) o0 (a0, a1, ()) = m0 N a0 a1 := by kernel_rfl
theorem G_ok (N : Nat) : GamOK Try.prog (G N) := gam_ok (l := [(32, [], F32.sp N)]) (⟨F32.snd N, trivial⟩)
theorem snd (N : Nat) : Sound Try.prog E 8 (sp N) :=
  Mir.sound T_OK (G_ok N) mixed Try.func8 (c := code) (by kernel_rfl) (by kernel_rfl) (sp N) (Nat.le_of_ble_eq_true (by kernel_rfl)) live [] (by
    rintro ⟨a0, a1, _⟩ r h
    exact ⟨N, 2, ((run N _ a0 a1).trans rfl).trans h⟩)
end F8
/-! ### F33: loop.example/g00220/laws.toBoolS -/
namespace F33
abbrev R := (List Bool)
noncomputable def step3 (N : Nat) (a0 : List Bool) (rec : (Int × (List Bool)) → Option R) : (Int × (List Bool)) → Option R
  | (v1, v2) =>
    bif (decide (v1 < (a0.length : Int))) then
      bif (decide (0 ≤ v1)) then
      bif (decide (v1 < (a0.length : Int))) then
      bif (decide (0 ≤ v1)) then
      bif (decide (v1 < (v2.length : Int))) then
      rec ((w64 (v1 + (1:Int))), (v2.set (Int.toNat v1) (a0.getD (Int.toNat v1) false)))
      else none
      else none
      else none
      else none
    else
    some v2
noncomputable def lp3 (N : Nat) (a0 : List Bool) : (Int × (List Bool)) → Option R :=
  miter (fun rec => step3 N a0 rec) N
noncomputable def m (N : Nat) (a0 : List Bool) : Option R :=
  bif (decide (0 ≤ (a0.length : Int))) then
  bif (room (Int.toNat (a0.length : Int)) 1) then
  lp3 N a0 ((0:Int), (List.replicate (Int.toNat (a0.length : Int)) false))
  else none
  else none
@[reducible] noncomputable def sp (N : Nat) : Spec E := { ps := [.val (.slice 4 .bool)], rs := [(.slice 4 .bool)], own := true, R := R, fn := fun x => m N x.1, res := fun r => (r, ()), out := fun r => ((), ()), shut := fun a b => a.1, res_shut := fun _ _ => rfl, out_shut := fun _ _ => rfl }
end F33
namespace F33
noncomputable def code : Code := Try.f33.body.getD .skip
abbrev live : Live := [(3, [0, 3, 4])]
noncomputable def G (N : Nat) : Ctx E := gam []
noncomputable def loop3 : Code := codeAt code [1, 1, 0, 1, 0]
noncomputable def body3 : Code := codeAt loop3 [0]
noncomputable def K3 (N : Nat) (o0 : Orc E R) : KT E R := kAt T (G N) live [] o0 code [1, 1, 0, 1, 0] (kfin T Try.f33 (sp N))
noncomputable def St3 (a0 : List Bool) : (Int × (List Bool)) → St E
  | (v1, v2) => { ρ := [(0, .c (.at (.ro 4 .bool a0))), (3, .c (.at (.own 0))), (4, .c (.at (.int .i64 v1)))], H := [(0, .row 4 .bool v2 false)], nx := 1, n := 22, pin := [] }
noncomputable def m0 (N : Nat) (a0 : List Bool) (lp3 : Int × (List Bool) → Option R) : Option R :=
  bif (decide (0 ≤ (a0.length : Int))) then
  bif (room (Int.toNat (a0.length : Int)) 1) then
  lp3 ((0:Int), (List.replicate (Int.toNat (a0.length : Int)) false))
  else none
  else none
theorem run (N : Nat) (o0 : Orc E R) (a0 : List Bool) : runF T (G N) live [] Try.f33 code (sp N) o0 (a0, ()) = m0 N a0 (fun a => o0 loop3 (K3 N o0) (St3 a0 a)) := by kernel_rfl
theorem body3_0 (N : Nat) (o0 : Orc E R) (o1 : Orc E R) (q1 : St E → Option R) (a0 : List Bool) (v1 : Int) (v2 : List Bool) : runA T (G N) live [] o1 body3 (St3 a0 (v1, v2)) (kloop [0, 3, 4] q1 (K3 N o0)) = step3 N a0 (fun a => q1 (St3 a0 a)) (v1, v2) := by kernel_rfl
theorem lp3_eq (N : Nat) (a0 : List Bool) (a : Int × (List Bool)) : (orc T (G N) live [] N 2) loop3 (K3 N (orc T (G N) live [] N 2)) (St3 a0 a) = lp3 N a0 a :=
  (orc_loop (b := body3) (live := [0, 3, 4]) (by kernel_rfl)).trans (iter_eq (St3 a0) _ _ (fun q1 a => by
    have hc := congrFun (congrFun (rfl : (step3 N a0) = (step3 N a0)) (fun a => q1 (St3 a0 a))) a
    obtain ⟨u0, u1⟩ := a
    exact (body3_0 N (orc T (G N) live [] N 2) (orc T (G N) live [] N 1) q1 a0 u0 u1).trans hc) N a)
theorem G_ok (N : Nat) : GamOK Try.prog (G N) := gam_ok (l := []) (trivial)
theorem snd (N : Nat) : Sound Try.prog E 33 (sp N) :=
  Mir.sound T_OK (G_ok N) mixed Try.func33 (c := code) (by kernel_rfl) (by kernel_rfl) (sp N) (Nat.le_of_ble_eq_true (by kernel_rfl)) live [] (by
    rintro ⟨a0, _⟩ r h
    exact ⟨N, 2, ((run N _ a0).trans (congrArg (m0 N a0) (funext fun a => lp3_eq N a0 a))).trans h⟩)
end F33
/-! ### F10: loop.example/g00220/laws.toSigner -/
namespace F10
abbrev R := Signer
noncomputable def m (N : Nat) (a0 : Signer) : Option R :=
  ob (F33.m N a0.Used) fun y1 =>
  some (Signer.mk a0.Seed y1)
@[reducible] noncomputable def sp (N : Nat) : Spec E := { ps := [.val (.st 24)], rs := [(.st 27)], own := true, R := R, fn := fun x => m N x.1, res := fun r => (r, ()), out := fun r => ((), ()), shut := fun a b => a.1, res_shut := fun _ _ => rfl, out_shut := fun _ _ => rfl }
end F10
namespace F10
noncomputable def code : Code := Try.f10.body.getD .skip
abbrev live : Live := []
noncomputable def G (N : Nat) : Ctx E := gam [(33, [], F33.sp N)]
noncomputable def m0 (N : Nat) (a0 : Signer) : Option R :=
  ob (F33.m N a0.Used) fun y1 =>
  some (Signer.mk a0.Seed y1)
theorem run (N : Nat) (o0 : Orc E R) (a0 : Signer) : runF T (G N) live [] Try.f10 code (sp N) o0 (a0, ()) = m0 N a0 := by kernel_rfl
theorem G_ok (N : Nat) : GamOK Try.prog (G N) := gam_ok (l := [(33, [], F33.sp N)]) (⟨F33.snd N, trivial⟩)
theorem snd (N : Nat) : Sound Try.prog E 10 (sp N) :=
  Mir.sound T_OK (G_ok N) mixed Try.func10 (c := code) (by kernel_rfl) (by kernel_rfl) (sp N) (Nat.le_of_ble_eq_true (by kernel_rfl)) live [] (by
    rintro ⟨a0, _⟩ r h
    exact ⟨N, 2, ((run N _ a0).trans rfl).trans h⟩)
end F10
/-! ### F9: loop.example/g00220/spec.SignerOK -/
namespace F9
abbrev R := Bool
noncomputable def m (N : Nat) (a0 : Signer) : Option R :=
  bif ((a0.Seed.size : Int) == (32:Int)) then
    some (bif true then ((a0.Used.length : Int) == (4:Int)) else false)
  else
  some false
@[reducible] noncomputable def sp (N : Nat) : Spec E := { ps := [.val (.st 27)], rs := [.bool], own := true, R := R, fn := fun x => m N x.1, res := fun r => (r, ()), out := fun r => ((), ()), shut := fun a b => a.1, res_shut := fun _ _ => rfl, out_shut := fun _ _ => rfl }
end F9
namespace F9
noncomputable def code : Code := Try.f9.body.getD .skip
abbrev live : Live := []
noncomputable def G (N : Nat) : Ctx E := gam []
noncomputable def m0 (N : Nat) (a0 : Signer) : Option R :=
  bif ((a0.Seed.size : Int) == (32:Int)) then
    some (bif true then ((a0.Used.length : Int) == (4:Int)) else false)
  else
  some false
theorem run (N : Nat) (o0 : Orc E R) (a0 : Signer) : runF T (G N) live [] Try.f9 code (sp N) o0 (a0, ()) = m0 N a0 := by kernel_rfl
theorem G_ok (N : Nat) : GamOK Try.prog (G N) := gam_ok (l := []) (trivial)
theorem snd (N : Nat) : Sound Try.prog E 9 (sp N) :=
  Mir.sound T_OK (G_ok N) mixed Try.func9 (c := code) (by kernel_rfl) (by kernel_rfl) (sp N) (Nat.le_of_ble_eq_true (by kernel_rfl)) live [] (by
    rintro ⟨a0, _⟩ r h
    exact ⟨N, 2, ((run N _ a0).trans rfl).trans h⟩)
end F9
/-! ### F66: loop.example/g00220/impl.isHash$1 -/
namespace F66
abbrev R := Bool
noncomputable def m (N : Nat) (a0 : ByteArray) : Option R :=
  some ((a0.size : Int) != (32:Int))
@[reducible] noncomputable def sp (N : Nat) : Spec E := { ps := [.val .str], rs := [.bool], own := true, R := R, fn := fun x => m N x.1, res := fun r => (r, ()), out := fun r => ((), ()), shut := fun a b => a.1, res_shut := fun _ _ => rfl, out_shut := fun _ _ => rfl }
end F66
namespace F66
noncomputable def code : Code := Try.f66.body.getD .skip
abbrev live : Live := []
noncomputable def G (N : Nat) : Ctx E := gam []
noncomputable def m0 (N : Nat) (a0 : ByteArray) : Option R :=
  some ((a0.size : Int) != (32:Int))
theorem run (N : Nat) (o0 : Orc E R) (a0 : ByteArray) : runF T (G N) live [] Try.f66 code (sp N) o0 (a0, ()) = m0 N a0 := by kernel_rfl
theorem G_ok (N : Nat) : GamOK Try.prog (G N) := gam_ok (l := []) (trivial)
theorem snd (N : Nat) : Sound Try.prog E 66 (sp N) :=
  Mir.sound T_OK (G_ok N) mixed Try.func66 (c := code) (by kernel_rfl) (by kernel_rfl) (sp N) (Nat.le_of_ble_eq_true (by kernel_rfl)) live [] (by
    rintro ⟨a0, _⟩ r h
    exact ⟨N, 2, ((run N _ a0).trans rfl).trans h⟩)
end F66
/-! ### F87_66: slices.IndexFunc[[]string,string] -/
namespace F87_66
abbrev R := Int
noncomputable def step2 (N : Nat) (a0 : List ByteArray) (rec : (Int × Int) → Option R) : (Int × Int) → Option R
  | (v1, v2) =>
    bif (decide (v2 < v1)) then
      bif (decide (0 ≤ v2)) then
      bif (decide (v2 < (a0.length : Int))) then
      ob (F66.m N (a0.getD (Int.toNat v2) ByteArray.empty)) fun y1 =>
      bif y1 then
        some v2
      else
      rec (v1, (w64 (v2 + (1:Int))))
      else none
      else none
    else
    some (-1:Int)
noncomputable def lp2 (N : Nat) (a0 : List ByteArray) : (Int × Int) → Option R :=
  miter (fun rec => step2 N a0 rec) N
noncomputable def m (N : Nat) (a0 : List ByteArray) : Option R :=
  lp2 N a0 ((a0.length : Int), (0:Int))
@[reducible] noncomputable def sp (N : Nat) : Spec E := { ps := [.val (.slice 9 .str), .clo 66 []], rs := [(.int .i64)], own := true, R := R, fn := fun x => m N x.1, res := fun r => (r, ()), out := fun r => ((), (), ()), shut := fun a b => a.1, res_shut := fun _ _ => rfl, out_shut := fun _ _ => rfl }
end F87_66
namespace F87_66
noncomputable def code : Code := Try.f87.body.getD .skip
abbrev live : Live := [(2, [0, 1, 7, 8])]
noncomputable def G (N : Nat) : Ctx E := gam [(66, [], F66.sp N)]
noncomputable def loop2 : Code := codeAt code [1, 0, 1, 0]
noncomputable def body2 : Code := codeAt loop2 [0]
noncomputable def K2 (N : Nat) (o0 : Orc E R) : KT E R := kAt T (G N) live [] o0 code [1, 0, 1, 0] (kfin T Try.f87 (sp N))
noncomputable def St2 (a0 : List ByteArray) : (Int × Int) → St E
  | (v1, v2) => { ρ := [(0, .c (.at (.ro 9 .str a0))), (1, .clo 66 []), (7, .c (.at (.int .i64 v1))), (8, .c (.at (.int .i64 v2)))], H := [], nx := 0, n := 19, pin := [] }
noncomputable def m0 (N : Nat) (a0 : List ByteArray) (lp2 : Int × Int → Option R) : Option R :=
  lp2 ((a0.length : Int), (0:Int))
theorem run (N : Nat) (o0 : Orc E R) (a0 : List ByteArray) : runF T (G N) live [] Try.f87 code (sp N) o0 (a0, (), ()) = m0 N a0 (fun a => o0 loop2 (K2 N o0) (St2 a0 a)) := by kernel_rfl
theorem body2_0 (N : Nat) (o0 : Orc E R) (o1 : Orc E R) (q1 : St E → Option R) (a0 : List ByteArray) (v1 : Int) (v2 : Int) : runA T (G N) live [] o1 body2 (St2 a0 (v1, v2)) (kloop [0, 1, 7, 8] q1 (K2 N o0)) = step2 N a0 (fun a => q1 (St2 a0 a)) (v1, v2) := by kernel_rfl
theorem lp2_eq (N : Nat) (a0 : List ByteArray) (a : Int × Int) : (orc T (G N) live [] N 2) loop2 (K2 N (orc T (G N) live [] N 2)) (St2 a0 a) = lp2 N a0 a :=
  (orc_loop (b := body2) (live := [0, 1, 7, 8]) (by kernel_rfl)).trans (iter_eq (St2 a0) _ _ (fun q1 a => by
    have hc := congrFun (congrFun (rfl : (step2 N a0) = (step2 N a0)) (fun a => q1 (St2 a0 a))) a
    obtain ⟨u0, u1⟩ := a
    exact (body2_0 N (orc T (G N) live [] N 2) (orc T (G N) live [] N 1) q1 a0 u0 u1).trans hc) N a)
theorem G_ok (N : Nat) : GamOK Try.prog (G N) := gam_ok (l := [(66, [], F66.sp N)]) (⟨F66.snd N, trivial⟩)
theorem snd (N : Nat) : Sound Try.prog E 87 (sp N) :=
  Mir.sound T_OK (G_ok N) mixed Try.func87 (c := code) (by kernel_rfl) (by kernel_rfl) (sp N) (Nat.le_of_ble_eq_true (by kernel_rfl)) live [] (by
    rintro ⟨a0, _, _⟩ r h
    exact ⟨N, 2, ((run N _ a0).trans (congrArg (m0 N a0) (funext fun a => lp2_eq N a0 a))).trans h⟩)
end F87_66
/-! ### F65_66: slices.ContainsFunc[[]string,string] -/
namespace F65_66
abbrev R := Bool
noncomputable def m (N : Nat) (a0 : List ByteArray) : Option R :=
  ob (F87_66.m N a0) fun y1 =>
  some (decide (y1 ≥ (0:Int)))
@[reducible] noncomputable def sp (N : Nat) : Spec E := { ps := [.val (.slice 9 .str), .clo 66 []], rs := [.bool], own := true, R := R, fn := fun x => m N x.1, res := fun r => (r, ()), out := fun r => ((), (), ()), shut := fun a b => a.1, res_shut := fun _ _ => rfl, out_shut := fun _ _ => rfl }
end F65_66
namespace F65_66
noncomputable def code : Code := Try.f65.body.getD .skip
abbrev live : Live := []
noncomputable def G (N : Nat) : Ctx E := gam [(87, [66], F87_66.sp N)]
noncomputable def m0 (N : Nat) (a0 : List ByteArray) : Option R :=
  ob (F87_66.m N a0) fun y1 =>
  some (decide (y1 ≥ (0:Int)))
theorem run (N : Nat) (o0 : Orc E R) (a0 : List ByteArray) : runF T (G N) live [] Try.f65 code (sp N) o0 (a0, (), ()) = m0 N a0 := by kernel_rfl
theorem G_ok (N : Nat) : GamOK Try.prog (G N) := gam_ok (l := [(87, [66], F87_66.sp N)]) (⟨F87_66.snd N, trivial⟩)
theorem snd (N : Nat) : Sound Try.prog E 65 (sp N) :=
  Mir.sound T_OK (G_ok N) mixed Try.func65 (c := code) (by kernel_rfl) (by kernel_rfl) (sp N) (Nat.le_of_ble_eq_true (by kernel_rfl)) live [] (by
    rintro ⟨a0, _, _⟩ r h
    exact ⟨N, 2, ((run N _ a0).trans rfl).trans h⟩)
end F65_66
/-! ### F34: loop.example/g00220/impl.isHash -/
namespace F34
abbrev R := Bool
noncomputable def m (N : Nat) (a0 : List ByteArray) : Option R :=
  ob (F65_66.m N a0) fun y1 =>
  some (!y1)
@[reducible] noncomputable def sp (N : Nat) : Spec E := { ps := [.val (.slice 9 .str)], rs := [.bool], own := true, R := R, fn := fun x => m N x.1, res := fun r => (r, ()), out := fun r => ((), ()), shut := fun a b => a.1, res_shut := fun _ _ => rfl, out_shut := fun _ _ => rfl }
end F34
namespace F34
noncomputable def code : Code := Try.f34.body.getD .skip
abbrev live : Live := []
noncomputable def G (N : Nat) : Ctx E := gam [(65, [66], F65_66.sp N)]
noncomputable def m0 (N : Nat) (a0 : List ByteArray) : Option R :=
  ob (F65_66.m N a0) fun y1 =>
  some (!y1)
theorem run (N : Nat) (o0 : Orc E R) (a0 : List ByteArray) : runF T (G N) live [] Try.f34 code (sp N) o0 (a0, ()) = m0 N a0 := by kernel_rfl
theorem G_ok (N : Nat) : GamOK Try.prog (G N) := gam_ok (l := [(65, [66], F65_66.sp N)]) (⟨F65_66.snd N, trivial⟩)
theorem snd (N : Nat) : Sound Try.prog E 34 (sp N) :=
  Mir.sound T_OK (G_ok N) mixed Try.func34 (c := code) (by kernel_rfl) (by kernel_rfl) (sp N) (Nat.le_of_ble_eq_true (by kernel_rfl)) live [] (by
    rintro ⟨a0, _⟩ r h
    exact ⟨N, 2, ((run N _ a0).trans rfl).trans h⟩)
end F34
/-! ### F11: loop.example/g00220/impl.SignerOK -/
namespace F11
abbrev R := Bool
noncomputable def m (N : Nat) (a0 : Signer) : Option R :=
  ob (F34.m N ([a0.Seed])) fun y1 =>
  bif y1 then
    some (bif true then ((a0.Used.length : Int) == (4:Int)) else false)
  else
  some false
@[reducible] noncomputable def sp (N : Nat) : Spec E := { ps := [.val (.st 27)], rs := [.bool], own := true, R := R, fn := fun x => m N x.1, res := fun r => (r, ()), out := fun r => ((), ()), shut := fun a b => a.1, res_shut := fun _ _ => rfl, out_shut := fun _ _ => rfl }
end F11
namespace F11
noncomputable def code : Code := Try.f11.body.getD .skip
abbrev live : Live := []
noncomputable def G (N : Nat) : Ctx E := gam [(34, [], F34.sp N)]
noncomputable def m0 (N : Nat) (a0 : Signer) : Option R :=
  ob (F34.m N ([a0.Seed])) fun y1 =>
  bif y1 then
    some (bif true then ((a0.Used.length : Int) == (4:Int)) else false)
  else
  some false
theorem run (N : Nat) (o0 : Orc E R) (a0 : Signer) : runF T (G N) live [] Try.f11 code (sp N) o0 (a0, ()) = m0 N a0 := by kernel_rfl
theorem G_ok (N : Nat) : GamOK Try.prog (G N) := gam_ok (l := [(34, [], F34.sp N)]) (⟨F34.snd N, trivial⟩)
theorem snd (N : Nat) : Sound Try.prog E 11 (sp N) :=
  Mir.sound T_OK (G_ok N) mixed Try.func11 (c := code) (by kernel_rfl) (by kernel_rfl) (sp N) (Nat.le_of_ble_eq_true (by kernel_rfl)) live [] (by
    rintro ⟨a0, _⟩ r h
    exact ⟨N, 2, ((run N _ a0).trans rfl).trans h⟩)
end F11
/-! ### F35: loop.example/g00220/laws.eqBoolS -/
namespace F35
abbrev R := Bool
noncomputable def step4 (N : Nat) (a0 : List Bool) (a1 : List Bool) (rec : Int → Option R) : Int → Option R
  | v2 =>
    bif (decide (v2 < (a0.length : Int))) then
      bif (decide (0 ≤ v2)) then
      bif (decide (v2 < (a0.length : Int))) then
      bif (decide (0 ≤ v2)) then
      bif (decide (v2 < (a1.length : Int))) then
      bif (!((a0.getD (Int.toNat v2) false) == (a1.getD (Int.toNat v2) false))) then
        some false
      else
      rec (w64 (v2 + (1:Int)))
      else none
      else none
      else none
      else none
    else
    some true
noncomputable def lp4 (N : Nat) (a0 : List Bool) (a1 : List Bool) : Int → Option R :=
  miter (fun rec => step4 N a0 a1 rec) N
noncomputable def m (N : Nat) (a0 : List Bool) (a1 : List Bool) : Option R :=
  bif ((a0.length : Int) != (a1.length : Int)) then
    some false
  else
  lp4 N a0 a1 (0:Int)
@[reducible] noncomputable def sp (N : Nat) : Spec E := { ps := [.val (.slice 4 .bool), .val (.slice 4 .bool)], rs := [.bool], own := true, R := R, fn := fun x => m N x.1 x.2.1, res := fun r => (r, ()), out := fun r => ((), (), ()), shut := fun a b => a.1, res_shut := fun _ _ => rfl, out_shut := fun _ _ => rfl }
end F35
namespace F35
noncomputable def code : Code := Try.f35.body.getD .skip
abbrev live : Live := [(4, [0, 1, 5])]
noncomputable def G (N : Nat) : Ctx E := gam []
noncomputable def loop4 : Code := codeAt code [1, 1, 0, 1, 0]
noncomputable def body4 : Code := codeAt loop4 [0]
noncomputable def K4 (N : Nat) (o0 : Orc E R) : KT E R := kAt T (G N) live [] o0 code [1, 1, 0, 1, 0] (kfin T Try.f35 (sp N))
noncomputable def St4 (a0 : List Bool) (a1 : List Bool) : Int → St E
  | v2 => { ρ := [(0, .c (.at (.ro 4 .bool a0))), (1, .c (.at (.ro 4 .bool a1))), (5, .c (.at (.int .i64 v2)))], H := [], nx := 0, n := 26, pin := [] }
noncomputable def m0 (N : Nat) (a0 : List Bool) (a1 : List Bool) (lp4 : Int → Option R) : Option R :=
  bif ((a0.length : Int) != (a1.length : Int)) then
    some false
  else
  lp4 (0:Int)
theorem run (N : Nat) (o0 : Orc E R) (a0 : List Bool) (a1 : List Bool) : runF T (G N) live [] Try.f35 code (sp N) o0 (a0, a1, ()) = m0 N a0 a1 (fun a => o0 loop4 (K4 N o0) (St4 a0 a1 a)) := by kernel_rfl
theorem body4_0 (N : Nat) (o0 : Orc E R) (o1 : Orc E R) (q1 : St E → Option R) (a0 : List Bool) (a1 : List Bool) (v2 : Int) : runA T (G N) live [] o1 body4 (St4 a0 a1 v2) (kloop [0, 1, 5] q1 (K4 N o0)) = step4 N a0 a1 (fun a => q1 (St4 a0 a1 a)) v2 := by kernel_rfl
theorem lp4_eq (N : Nat) (a0 : List Bool) (a1 : List Bool) (a : Int) : (orc T (G N) live [] N 2) loop4 (K4 N (orc T (G N) live [] N 2)) (St4 a0 a1 a) = lp4 N a0 a1 a :=
  (orc_loop (b := body4) (live := [0, 1, 5]) (by kernel_rfl)).trans (iter_eq (St4 a0 a1) _ _ (fun q1 a => by
    have hc := congrFun (congrFun (rfl : (step4 N a0 a1) = (step4 N a0 a1)) (fun a => q1 (St4 a0 a1 a))) a
    exact (body4_0 N (orc T (G N) live [] N 2) (orc T (G N) live [] N 1) q1 a0 a1 a).trans hc) N a)
theorem G_ok (N : Nat) : GamOK Try.prog (G N) := gam_ok (l := []) (trivial)
theorem snd (N : Nat) : Sound Try.prog E 35 (sp N) :=
  Mir.sound T_OK (G_ok N) mixed Try.func35 (c := code) (by kernel_rfl) (by kernel_rfl) (sp N) (Nat.le_of_ble_eq_true (by kernel_rfl)) live [] (by
    rintro ⟨a0, a1, _⟩ r h
    exact ⟨N, 2, ((run N _ a0 a1).trans (congrArg (m0 N a0 a1) (funext fun a => lp4_eq N a0 a1 a))).trans h⟩)
end F35
/-! ### F12: loop.example/g00220/laws.eqSigner -/
namespace F12
abbrev R := Bool
noncomputable def m (N : Nat) (a0 : Signer) (a1 : Signer) : Option R :=
  bif (!seq a0.Seed a1.Seed) then
    some false
  else
  ob (F35.m N a0.Used a1.Used) fun y1 =>
  bif (!y1) then
    some false
  else
  some true
@[reducible] noncomputable def sp (N : Nat) : Spec E := { ps := [.val (.st 27), .val (.st 27)], rs := [.bool], own := true, R := R, fn := fun x => m N x.1 x.2.1, res := fun r => (r, ()), out := fun r => ((), (), ()), shut := fun a b => a.1, res_shut := fun _ _ => rfl, out_shut := fun _ _ => rfl }
end F12
namespace F12
noncomputable def code : Code := Try.f12.body.getD .skip
abbrev live : Live := []
noncomputable def G (N : Nat) : Ctx E := gam [(35, [], F35.sp N)]
noncomputable def m0 (N : Nat) (a0 : Signer) (a1 : Signer) : Option R :=
  bif (!seq a0.Seed a1.Seed) then
    some false
  else
  ob (F35.m N a0.Used a1.Used) fun y1 =>
  bif (!y1) then
    some false
  else
  some true
theorem run (N : Nat) (o0 : Orc E R) (a0 : Signer) (a1 : Signer) : runF T (G N) live [] Try.f12 code (sp N) o0 (a0, a1, ()) = m0 N a0 a1 := by kernel_rfl
theorem G_ok (N : Nat) : GamOK Try.prog (G N) := gam_ok (l := [(35, [], F35.sp N)]) (⟨F35.snd N, trivial⟩)
theorem snd (N : Nat) : Sound Try.prog E 12 (sp N) :=
  Mir.sound T_OK (G_ok N) mixed Try.func12 (c := code) (by kernel_rfl) (by kernel_rfl) (sp N) (Nat.le_of_ble_eq_true (by kernel_rfl)) live [] (by
    rintro ⟨a0, a1, _⟩ r h
    exact ⟨N, 2, ((run N _ a0 a1).trans rfl).trans h⟩)
end F12
/-! ### F3: loop.example/g00220/laws.FnExactSignerOK -/
namespace F3
abbrev R := Bool
noncomputable def m (N : Nat) (a0 : Signer) : Option R :=
  ob (F8.m N a0 (1048576:Int)) fun y1 =>
  bif (decide (y1 < (0:Int))) then
    some true
  else
  ob (F10.m N a0) fun y2 =>
  ob (F9.m N y2) fun y3 =>
  ob (F10.m N a0) fun y4 =>
  ob (F11.m N y4) fun y5 =>
  bif (!(y5 == y3)) then
    some false
  else
  ob (F10.m N a0) fun y6 =>
  ob (F12.m N y4 y6) fun y7 =>
  bif (!y7) then
    some false
  else
  some true
@[reducible] noncomputable def sp (N : Nat) : Spec E := { ps := [.val (.st 24)], rs := [.bool], own := true, R := R, fn := fun x => m N x.1, res := fun r => (r, ()), out := fun r => ((), ()), shut := fun a b => a.1, res_shut := fun _ _ => rfl, out_shut := fun _ _ => rfl }
end F3
namespace F3
noncomputable def code : Code := Try.f3.body.getD .skip
abbrev live : Live := []
noncomputable def G (N : Nat) : Ctx E := gam [(8, [], F8.sp N), (10, [], F10.sp N), (9, [], F9.sp N), (11, [], F11.sp N), (12, [], F12.sp N)]
noncomputable def m0 (N : Nat) (a0 : Signer) : Option R :=
  ob (F8.m N a0 (1048576:Int)) fun y1 =>
  bif (decide (y1 < (0:Int))) then
    some true
  else
  ob (F10.m N a0) fun y2 =>
  ob (F9.m N y2) fun y3 =>
  ob (F10.m N a0) fun y4 =>
  ob (F11.m N y4) fun y5 =>
  bif (!(y5 == y3)) then
    some false
  else
  ob (F10.m N a0) fun y6 =>
  ob (F12.m N y4 y6) fun y7 =>
  bif (!y7) then
    some false
  else
  some true
theorem run (N : Nat) (o0 : Orc E R) (a0 : Signer) : runF T (G N) live [] Try.f3 code (sp N) o0 (a0, ()) = m0 N a0 := by kernel_rfl
theorem G_ok (N : Nat) : GamOK Try.prog (G N) := gam_ok (l := [(8, [], F8.sp N), (10, [], F10.sp N), (9, [], F9.sp N), (11, [], F11.sp N), (12, [], F12.sp N)]) (⟨F8.snd N, F10.snd N, F9.snd N, F11.snd N, F12.snd N, trivial⟩)
theorem snd (N : Nat) : Sound Try.prog E 3 (sp N) :=
  Mir.sound T_OK (G_ok N) mixed Try.func3 (c := code) (by kernel_rfl) (by kernel_rfl) (sp N) (Nat.le_of_ble_eq_true (by kernel_rfl)) live [] (by
    rintro ⟨a0, _⟩ r h
    exact ⟨N, 2, ((run N _ a0).trans rfl).trans h⟩)
end F3
/-! ### F67: loop.example/g00220/laws.szCommand -/
namespace F67
abbrev R := Int
noncomputable def m (N : Nat) (a0 : Command) (a1 : Int) : Option R :=
  bif (decide ((w64 (a1 - (a0.Key.size : Int))) < (0:Int))) then
    some (-1:Int)
  else
  bif (decide ((w64 ((w64 (a1 - (a0.Key.size : Int))) - (a0.Value.size : Int))) < (0:Int))) then
    some (-1:Int)
  else
  some (w64 ((w64 (a1 - (a0.Key.size : Int))) - (a0.Value.size : Int)))
@[reducible] noncomputable def sp (N : Nat) : Spec E := { ps := [.val (.st 67), .val (.int .i64)], rs := [(.int .i64)], own := true, R := R, fn := fun x => m N x.1 x.2.1, res := fun r => (r, ()), out := fun r => ((), (), ()), shut := fun a b => a.1, res_shut := fun _ _ => rfl, out_shut := fun _ _ => rfl }
end F67
namespace F67
noncomputable def code : Code := Try.f67.body.getD .skip
abbrev live : Live := []
noncomputable def G (N : Nat) : Ctx E := gam []
noncomputable def m0 (N : Nat) (a0 : Command) (a1 : Int) : Option R :=
  bif (decide ((w64 (a1 - (a0.Key.size : Int))) < (0:Int))) then
    some (-1:Int)
  else
  bif (decide ((w64 ((w64 (a1 - (a0.Key.size : Int))) - (a0.Value.size : Int))) < (0:Int))) then
    some (-1:Int)
  else
  some (w64 ((w64 (a1 - (a0.Key.size : Int))) - (a0.Value.size : Int)))
theorem run (N : Nat) (o0 : Orc E R) (a0 : Command) (a1 : Int) : runF T (G N) live [] Try.f67 code (sp N) o0 (a0, a1, ()) = m0 N a0 a1 := by kernel_rfl
theorem G_ok (N : Nat) : GamOK Try.prog (G N) := gam_ok (l := []) (trivial)
theorem snd (N : Nat) : Sound Try.prog E 67 (sp N) :=
  Mir.sound T_OK (G_ok N) mixed Try.func67 (c := code) (by kernel_rfl) (by kernel_rfl) (sp N) (Nat.le_of_ble_eq_true (by kernel_rfl)) live [] (by
    rintro ⟨a0, a1, _⟩ r h
    exact ⟨N, 2, ((run N _ a0 a1).trans rfl).trans h⟩)
end F67
/-! ### F68: loop.example/g00220/laws.szReply -/
namespace F68
abbrev R := Int
noncomputable def m (N : Nat) (a0 : Reply) (a1 : Int) : Option R :=
  bif (decide ((w64 (a1 - (a0.Value.size : Int))) < (0:Int))) then
    some (-1:Int)
  else
  some (w64 (a1 - (a0.Value.size : Int)))
@[reducible] noncomputable def sp (N : Nat) : Spec E := { ps := [.val (.st 69), .val (.int .i64)], rs := [(.int .i64)], own := true, R := R, fn := fun x => m N x.1 x.2.1, res := fun r => (r, ()), out := fun r => ((), (), ()), shut := fun a b => a.1, res_shut := fun _ _ => rfl, out_shut := fun _ _ => rfl }
end F68
namespace F68
noncomputable def code : Code := Try.f68.body.getD .skip
abbrev live : Live := []
noncomputable def G (N : Nat) : Ctx E := gam []
noncomputable def m0 (N : Nat) (a0 : Reply) (a1 : Int) : Option R :=
  bif (decide ((w64 (a1 - (a0.Value.size : Int))) < (0:Int))) then
    some (-1:Int)
  else
  some (w64 (a1 - (a0.Value.size : Int)))
theorem run (N : Nat) (o0 : Orc E R) (a0 : Reply) (a1 : Int) : runF T (G N) live [] Try.f68 code (sp N) o0 (a0, a1, ()) = m0 N a0 a1 := by kernel_rfl
theorem G_ok (N : Nat) : GamOK Try.prog (G N) := gam_ok (l := []) (trivial)
theorem snd (N : Nat) : Sound Try.prog E 68 (sp N) :=
  Mir.sound T_OK (G_ok N) mixed Try.func68 (c := code) (by kernel_rfl) (by kernel_rfl) (sp N) (Nat.le_of_ble_eq_true (by kernel_rfl)) live [] (by
    rintro ⟨a0, a1, _⟩ r h
    exact ⟨N, 2, ((run N _ a0 a1).trans rfl).trans h⟩)
end F68
/-! ### F36: loop.example/g00220/laws.szCallRecord -/
namespace F36
abbrev R := Int
noncomputable def m (N : Nat) (a0 : CallRecord) (a1 : Int) : Option R :=
  ob (F67.m N (Command.mk a0.Command.Kind a0.Command.Session a0.Command.Seq a0.Command.Key a0.Command.Value) a1) fun y1 =>
  bif (decide (y1 < (0:Int))) then
    some (-1:Int)
  else
  ob (F68.m N (Reply.mk a0.Answer.Kind a0.Answer.Place a0.Answer.Value) y1) fun y2 =>
  bif (decide (y2 < (0:Int))) then
    some (-1:Int)
  else
  some y2
@[reducible] noncomputable def sp (N : Nat) : Spec E := { ps := [.val (.st 71), .val (.int .i64)], rs := [(.int .i64)], own := true, R := R, fn := fun x => m N x.1 x.2.1, res := fun r => (r, ()), out := fun r => ((), (), ()), shut := fun a b => a.1, res_shut := fun _ _ => rfl, out_shut := fun _ _ => rfl }
end F36
namespace F36
noncomputable def code : Code := Try.f36.body.getD .skip
abbrev live : Live := []
noncomputable def G (N : Nat) : Ctx E := gam [(67, [], F67.sp N), (68, [], F68.sp N)]
noncomputable def m0 (N : Nat) (a0 : CallRecord) (a1 : Int) : Option R :=
  ob (F67.m N (Command.mk a0.Command.Kind a0.Command.Session a0.Command.Seq a0.Command.Key a0.Command.Value) a1) fun y1 =>
  bif (decide (y1 < (0:Int))) then
    some (-1:Int)
  else
  ob (F68.m N (Reply.mk a0.Answer.Kind a0.Answer.Place a0.Answer.Value) y1) fun y2 =>
  bif (decide (y2 < (0:Int))) then
    some (-1:Int)
  else
  some y2
theorem run (N : Nat) (o0 : Orc E R) (a0 : CallRecord) (a1 : Int) : runF T (G N) live [] Try.f36 code (sp N) o0 (a0, a1, ()) = m0 N a0 a1 := by kernel_rfl
theorem G_ok (N : Nat) : GamOK Try.prog (G N) := gam_ok (l := [(67, [], F67.sp N), (68, [], F68.sp N)]) (⟨F67.snd N, F68.snd N, trivial⟩)
theorem snd (N : Nat) : Sound Try.prog E 36 (sp N) :=
  Mir.sound T_OK (G_ok N) mixed Try.func36 (c := code) (by kernel_rfl) (by kernel_rfl) (sp N) (Nat.le_of_ble_eq_true (by kernel_rfl)) live [] (by
    rintro ⟨a0, a1, _⟩ r h
    exact ⟨N, 2, ((run N _ a0 a1).trans rfl).trans h⟩)
end F36
/-! ### F13: loop.example/g00220/laws.szCallRecordS -/
namespace F13
abbrev R := Int
noncomputable def step5 (N : Nat) (a0 : List CallRecord) (a1 : Int) (rec : (Int × Int) → Option R) : (Int × Int) → Option R
  | (v1, v2) =>
    bif (decide (v2 < (a0.length : Int))) then
      bif (decide (0 ≤ v2)) then
      bif (decide (v2 < (a0.length : Int))) then
      ob (F36.m N (CallRecord.mk ((a0.getD (Int.toNat v2) CallRecord.dz).Client) ((a0.getD (Int.toNat v2) CallRecord.dz).Begin) ((a0.getD (Int.toNat v2) CallRecord.dz).End) (Command.mk ((a0.getD (Int.toNat v2) CallRecord.dz).Command.Kind) ((a0.getD (Int.toNat v2) CallRecord.dz).Command.Session) ((a0.getD (Int.toNat v2) CallRecord.dz).Command.Seq) ((a0.getD (Int.toNat v2) CallRecord.dz).Command.Key) ((a0.getD (Int.toNat v2) CallRecord.dz).Command.Value)) (Reply.mk ((a0.getD (Int.toNat v2) CallRecord.dz).Answer.Kind) ((a0.getD (Int.toNat v2) CallRecord.dz).Answer.Place) ((a0.getD (Int.toNat v2) CallRecord.dz).Answer.Value))) v1) fun y1 =>
      bif (decide (y1 < (0:Int))) then
        some (-1:Int)
      else
      rec (y1, (w64 (v2 + (1:Int))))
      else none
      else none
    else
    some v1
noncomputable def lp5 (N : Nat) (a0 : List CallRecord) (a1 : Int) : (Int × Int) → Option R :=
  miter (fun rec => step5 N a0 a1 rec) N
noncomputable def m (N : Nat) (a0 : List CallRecord) (a1 : Int) : Option R :=
  bif (decide ((w64 (a1 - (a0.length : Int))) < (0:Int))) then
    some (-1:Int)
  else
  lp5 N a0 a1 ((w64 (a1 - (a0.length : Int))), (0:Int))
@[reducible] noncomputable def sp (N : Nat) : Spec E := { ps := [.val (.slice 71 (.st 71)), .val (.int .i64)], rs := [(.int .i64)], own := true, R := R, fn := fun x => m N x.1 x.2.1, res := fun r => (r, ()), out := fun r => ((), (), ()), shut := fun a b => a.1, res_shut := fun _ _ => rfl, out_shut := fun _ _ => rfl }
end F13
namespace F13
noncomputable def code : Code := Try.f13.body.getD .skip
abbrev live : Live := [(5, [0, 1, 5])]
noncomputable def G (N : Nat) : Ctx E := gam [(36, [], F36.sp N)]
noncomputable def loop5 : Code := codeAt code [1, 1, 1, 0, 1, 0]
noncomputable def body5 : Code := codeAt loop5 [0]
noncomputable def K5 (N : Nat) (o0 : Orc E R) : KT E R := kAt T (G N) live [] o0 code [1, 1, 1, 0, 1, 0] (kfin T Try.f13 (sp N))
noncomputable def St5 (a0 : List CallRecord) (a1 : Int) : (Int × Int) → St E
  | (v1, v2) => { ρ := [(0, .c (.at (.ro 71 (.st 71) a0))), (1, .c (.at (.int .i64 v1))), (5, .c (.at (.int .i64 v2)))], H := [], nx := 0, n := 27, pin := [] }
noncomputable def m0 (N : Nat) (a0 : List CallRecord) (a1 : Int) (lp5 : Int × Int → Option R) : Option R :=
  bif (decide ((w64 (a1 - (a0.length : Int))) < (0:Int))) then
    some (-1:Int)
  else
  lp5 ((w64 (a1 - (a0.length : Int))), (0:Int))
theorem run (N : Nat) (o0 : Orc E R) (a0 : List CallRecord) (a1 : Int) : runF T (G N) live [] Try.f13 code (sp N) o0 (a0, a1, ()) = m0 N a0 a1 (fun a => o0 loop5 (K5 N o0) (St5 a0 a1 a)) := by kernel_rfl
theorem body5_0 (N : Nat) (o0 : Orc E R) (o1 : Orc E R) (q1 : St E → Option R) (a0 : List CallRecord) (a1 : Int) (v1 : Int) (v2 : Int) : runA T (G N) live [] o1 body5 (St5 a0 a1 (v1, v2)) (kloop [0, 1, 5] q1 (K5 N o0)) = step5 N a0 a1 (fun a => q1 (St5 a0 a1 a)) (v1, v2) := by kernel_rfl
theorem lp5_eq (N : Nat) (a0 : List CallRecord) (a1 : Int) (a : Int × Int) : (orc T (G N) live [] N 2) loop5 (K5 N (orc T (G N) live [] N 2)) (St5 a0 a1 a) = lp5 N a0 a1 a :=
  (orc_loop (b := body5) (live := [0, 1, 5]) (by kernel_rfl)).trans (iter_eq (St5 a0 a1) _ _ (fun q1 a => by
    have hc := congrFun (congrFun (rfl : (step5 N a0 a1) = (step5 N a0 a1)) (fun a => q1 (St5 a0 a1 a))) a
    obtain ⟨u0, u1⟩ := a
    exact (body5_0 N (orc T (G N) live [] N 2) (orc T (G N) live [] N 1) q1 a0 a1 u0 u1).trans hc) N a)
theorem G_ok (N : Nat) : GamOK Try.prog (G N) := gam_ok (l := [(36, [], F36.sp N)]) (⟨F36.snd N, trivial⟩)
theorem snd (N : Nat) : Sound Try.prog E 13 (sp N) :=
  Mir.sound T_OK (G_ok N) mixed Try.func13 (c := code) (by kernel_rfl) (by kernel_rfl) (sp N) (Nat.le_of_ble_eq_true (by kernel_rfl)) live [] (by
    rintro ⟨a0, a1, _⟩ r h
    exact ⟨N, 2, ((run N _ a0 a1).trans (congrArg (m0 N a0 a1) (funext fun a => lp5_eq N a0 a1 a))).trans h⟩)
end F13
/-! ### F69: loop.example/g00220/laws.toCommand -/
namespace F69
abbrev R := Command
noncomputable def m (N : Nat) (a0 : Command) : Option R :=
  some a0
@[reducible] noncomputable def sp (N : Nat) : Spec E := { ps := [.val (.st 67)], rs := [(.st 74)], own := true, R := R, fn := fun x => m N x.1, res := fun r => (r, ()), out := fun r => ((), ()), shut := fun a b => a.1, res_shut := fun _ _ => rfl, out_shut := fun _ _ => rfl }
end F69
namespace F69
noncomputable def code : Code := Try.f69.body.getD .skip
abbrev live : Live := []
noncomputable def G (N : Nat) : Ctx E := gam []
noncomputable def m0 (N : Nat) (a0 : Command) : Option R :=
  some a0
theorem run (N : Nat) (o0 : Orc E R) (a0 : Command) : runF T (G N) live [] Try.f69 code (sp N) o0 (a0, ()) = m0 N a0 := by kernel_rfl
theorem G_ok (N : Nat) : GamOK Try.prog (G N) := gam_ok (l := []) (trivial)
theorem snd (N : Nat) : Sound Try.prog E 69 (sp N) :=
  Mir.sound T_OK (G_ok N) mixed Try.func69 (c := code) (by kernel_rfl) (by kernel_rfl) (sp N) (Nat.le_of_ble_eq_true (by kernel_rfl)) live [] (by
    rintro ⟨a0, _⟩ r h
    exact ⟨N, 2, ((run N _ a0).trans rfl).trans h⟩)
end F69
/-! ### F70: loop.example/g00220/laws.toReply -/
namespace F70
abbrev R := Reply
noncomputable def m (N : Nat) (a0 : Reply) : Option R :=
  some a0
@[reducible] noncomputable def sp (N : Nat) : Spec E := { ps := [.val (.st 69)], rs := [(.st 75)], own := true, R := R, fn := fun x => m N x.1, res := fun r => (r, ()), out := fun r => ((), ()), shut := fun a b => a.1, res_shut := fun _ _ => rfl, out_shut := fun _ _ => rfl }
end F70
namespace F70
noncomputable def code : Code := Try.f70.body.getD .skip
abbrev live : Live := []
noncomputable def G (N : Nat) : Ctx E := gam []
noncomputable def m0 (N : Nat) (a0 : Reply) : Option R :=
  some a0
theorem run (N : Nat) (o0 : Orc E R) (a0 : Reply) : runF T (G N) live [] Try.f70 code (sp N) o0 (a0, ()) = m0 N a0 := by kernel_rfl
theorem G_ok (N : Nat) : GamOK Try.prog (G N) := gam_ok (l := []) (trivial)
theorem snd (N : Nat) : Sound Try.prog E 70 (sp N) :=
  Mir.sound T_OK (G_ok N) mixed Try.func70 (c := code) (by kernel_rfl) (by kernel_rfl) (sp N) (Nat.le_of_ble_eq_true (by kernel_rfl)) live [] (by
    rintro ⟨a0, _⟩ r h
    exact ⟨N, 2, ((run N _ a0).trans rfl).trans h⟩)
end F70
/-! ### F39: loop.example/g00220/laws.toCallRecord -/
namespace F39
abbrev R := CallRecord
noncomputable def m (N : Nat) (a0 : CallRecord) : Option R :=
  ob (F69.m N (Command.mk a0.Command.Kind a0.Command.Session a0.Command.Seq a0.Command.Key a0.Command.Value)) fun y1 =>
  ob (F70.m N (Reply.mk a0.Answer.Kind a0.Answer.Place a0.Answer.Value)) fun y2 =>
  some (CallRecord.mk a0.Client a0.Begin a0.End y1 y2)
@[reducible] noncomputable def sp (N : Nat) : Spec E := { ps := [.val (.st 71)], rs := [(.st 77)], own := true, R := R, fn := fun x => m N x.1, res := fun r => (r, ()), out := fun r => ((), ()), shut := fun a b => a.1, res_shut := fun _ _ => rfl, out_shut := fun _ _ => rfl }
end F39
namespace F39
noncomputable def code : Code := Try.f39.body.getD .skip
abbrev live : Live := []
noncomputable def G (N : Nat) : Ctx E := gam [(69, [], F69.sp N), (70, [], F70.sp N)]
noncomputable def m0 (N : Nat) (a0 : CallRecord) : Option R :=
  ob (F69.m N (Command.mk a0.Command.Kind a0.Command.Session a0.Command.Seq a0.Command.Key a0.Command.Value)) fun y1 =>
  ob (F70.m N (Reply.mk a0.Answer.Kind a0.Answer.Place a0.Answer.Value)) fun y2 =>
  some (CallRecord.mk a0.Client a0.Begin a0.End y1 y2)
theorem run (N : Nat) (o0 : Orc E R) (a0 : CallRecord) : runF T (G N) live [] Try.f39 code (sp N) o0 (a0, ()) = m0 N a0 := by kernel_rfl
theorem G_ok (N : Nat) : GamOK Try.prog (G N) := gam_ok (l := [(69, [], F69.sp N), (70, [], F70.sp N)]) (⟨F69.snd N, F70.snd N, trivial⟩)
theorem snd (N : Nat) : Sound Try.prog E 39 (sp N) :=
  Mir.sound T_OK (G_ok N) mixed Try.func39 (c := code) (by kernel_rfl) (by kernel_rfl) (sp N) (Nat.le_of_ble_eq_true (by kernel_rfl)) live [] (by
    rintro ⟨a0, _⟩ r h
    exact ⟨N, 2, ((run N _ a0).trans rfl).trans h⟩)
end F39
/-! ### F15: loop.example/g00220/laws.toCallRecordS -/
namespace F15
abbrev R := (List CallRecord)
noncomputable def step3 (N : Nat) (a0 : List CallRecord) (rec : (Int × (List CallRecord)) → Option R) : (Int × (List CallRecord)) → Option R
  | (v1, v2) =>
    bif (decide (v1 < (a0.length : Int))) then
      bif (decide (0 ≤ v1)) then
      bif (decide (v1 < (a0.length : Int))) then
      ob (F39.m N (CallRecord.mk ((a0.getD (Int.toNat v1) CallRecord.dz).Client) ((a0.getD (Int.toNat v1) CallRecord.dz).Begin) ((a0.getD (Int.toNat v1) CallRecord.dz).End) (Command.mk ((a0.getD (Int.toNat v1) CallRecord.dz).Command.Kind) ((a0.getD (Int.toNat v1) CallRecord.dz).Command.Session) ((a0.getD (Int.toNat v1) CallRecord.dz).Command.Seq) ((a0.getD (Int.toNat v1) CallRecord.dz).Command.Key) ((a0.getD (Int.toNat v1) CallRecord.dz).Command.Value)) (Reply.mk ((a0.getD (Int.toNat v1) CallRecord.dz).Answer.Kind) ((a0.getD (Int.toNat v1) CallRecord.dz).Answer.Place) ((a0.getD (Int.toNat v1) CallRecord.dz).Answer.Value)))) fun y1 =>
      bif (decide (0 ≤ v1)) then
      bif (decide (v1 < (v2.length : Int))) then
      rec ((w64 (v1 + (1:Int))), (v2.set (Int.toNat v1) (CallRecord.mk y1.Client y1.Begin y1.End (Command.mk y1.Command.Kind y1.Command.Session y1.Command.Seq y1.Command.Key y1.Command.Value) (Reply.mk y1.Answer.Kind y1.Answer.Place y1.Answer.Value))))
      else none
      else none
      else none
      else none
    else
    some v2
noncomputable def lp3 (N : Nat) (a0 : List CallRecord) : (Int × (List CallRecord)) → Option R :=
  miter (fun rec => step3 N a0 rec) N
noncomputable def m (N : Nat) (a0 : List CallRecord) : Option R :=
  bif (decide (0 ≤ (a0.length : Int))) then
  bif (room (Int.toNat (a0.length : Int)) 112) then
  lp3 N a0 ((0:Int), (List.replicate (Int.toNat (a0.length : Int)) (CallRecord.mk (0:Int) (0:Int) (0:Int) (Command.mk (0:Int) (0:Int) (0:Int) ByteArray.empty ByteArray.empty) (Reply.mk (0:Int) (0:Int) ByteArray.empty))))
  else none
  else none
@[reducible] noncomputable def sp (N : Nat) : Spec E := { ps := [.val (.slice 71 (.st 71))], rs := [(.slice 77 (.st 77))], own := true, R := R, fn := fun x => m N x.1, res := fun r => (r, ()), out := fun r => ((), ()), shut := fun a b => a.1, res_shut := fun _ _ => rfl, out_shut := fun _ _ => rfl }
end F15
namespace F15
noncomputable def code : Code := Try.f15.body.getD .skip
abbrev live : Live := [(3, [0, 3, 4])]
noncomputable def G (N : Nat) : Ctx E := gam [(39, [], F39.sp N)]
noncomputable def loop3 : Code := codeAt code [1, 1, 0, 1, 0]
noncomputable def body3 : Code := codeAt loop3 [0]
noncomputable def K3 (N : Nat) (o0 : Orc E R) : KT E R := kAt T (G N) live [] o0 code [1, 1, 0, 1, 0] (kfin T Try.f15 (sp N))
noncomputable def St3 (a0 : List CallRecord) : (Int × (List CallRecord)) → St E
  | (v1, v2) => { ρ := [(0, .c (.at (.ro 71 (.st 71) a0))), (3, .c (.at (.own 0))), (4, .c (.at (.int .i64 v1)))], H := [(0, .row 77 (.st 77) v2 false)], nx := 1, n := 23, pin := [] }
noncomputable def m0 (N : Nat) (a0 : List CallRecord) (lp3 : Int × (List CallRecord) → Option R) : Option R :=
  bif (decide (0 ≤ (a0.length : Int))) then
  bif (room (Int.toNat (a0.length : Int)) 112) then
  lp3 ((0:Int), (List.replicate (Int.toNat (a0.length : Int)) (CallRecord.mk (0:Int) (0:Int) (0:Int) (Command.mk (0:Int) (0:Int) (0:Int) ByteArray.empty ByteArray.empty) (Reply.mk (0:Int) (0:Int) ByteArray.empty))))
  else none
  else none
theorem run (N : Nat) (o0 : Orc E R) (a0 : List CallRecord) : runF T (G N) live [] Try.f15 code (sp N) o0 (a0, ()) = m0 N a0 (fun a => o0 loop3 (K3 N o0) (St3 a0 a)) := by kernel_rfl
theorem body3_0 (N : Nat) (o0 : Orc E R) (o1 : Orc E R) (q1 : St E → Option R) (a0 : List CallRecord) (v1 : Int) (v2 : List CallRecord) : runA T (G N) live [] o1 body3 (St3 a0 (v1, v2)) (kloop [0, 3, 4] q1 (K3 N o0)) = step3 N a0 (fun a => q1 (St3 a0 a)) (v1, v2) := by kernel_rfl
theorem lp3_eq (N : Nat) (a0 : List CallRecord) (a : Int × (List CallRecord)) : (orc T (G N) live [] N 2) loop3 (K3 N (orc T (G N) live [] N 2)) (St3 a0 a) = lp3 N a0 a :=
  (orc_loop (b := body3) (live := [0, 3, 4]) (by kernel_rfl)).trans (iter_eq (St3 a0) _ _ (fun q1 a => by
    have hc := congrFun (congrFun (rfl : (step3 N a0) = (step3 N a0)) (fun a => q1 (St3 a0 a))) a
    obtain ⟨u0, u1⟩ := a
    exact (body3_0 N (orc T (G N) live [] N 2) (orc T (G N) live [] N 1) q1 a0 u0 u1).trans hc) N a)
theorem G_ok (N : Nat) : GamOK Try.prog (G N) := gam_ok (l := [(39, [], F39.sp N)]) (⟨F39.snd N, trivial⟩)
theorem snd (N : Nat) : Sound Try.prog E 15 (sp N) :=
  Mir.sound T_OK (G_ok N) mixed Try.func15 (c := code) (by kernel_rfl) (by kernel_rfl) (sp N) (Nat.le_of_ble_eq_true (by kernel_rfl)) live [] (by
    rintro ⟨a0, _⟩ r h
    exact ⟨N, 2, ((run N _ a0).trans (congrArg (m0 N a0) (funext fun a => lp3_eq N a0 a))).trans h⟩)
end F15
/-! ### F37: loop.example/g00220/spec.l01In -/
namespace F37
abbrev R := Bool
noncomputable def m (N : Nat) (a0 : Int) (a1 : Int) (a2 : Int) : Option R :=
  bif (decide (a0 ≥ a1)) then
    some (bif true then (decide (a0 ≤ a2)) else false)
  else
  some false
@[reducible] noncomputable def sp (N : Nat) : Spec E := { ps := [.val (.int .i64), .val (.int .i64), .val (.int .i64)], rs := [.bool], own := true, R := R, fn := fun x => m N x.1 x.2.1 x.2.2.1, res := fun r => (r, ()), out := fun r => ((), (), (), ()), shut := fun a b => a.1, res_shut := fun _ _ => rfl, out_shut := fun _ _ => rfl }
end F37
namespace F37
noncomputable def code : Code := Try.f37.body.getD .skip
abbrev live : Live := []
noncomputable def G (N : Nat) : Ctx E := gam []
noncomputable def m0 (N : Nat) (a0 : Int) (a1 : Int) (a2 : Int) : Option R :=
  bif (decide (a0 ≥ a1)) then
    some (bif true then (decide (a0 ≤ a2)) else false)
  else
  some false
theorem run (N : Nat) (o0 : Orc E R) (a0 : Int) (a1 : Int) (a2 : Int) : runF T (G N) live [] Try.f37 code (sp N) o0 (a0, a1, a2, ()) = m0 N a0 a1 a2 := by kernel_rfl
theorem G_ok (N : Nat) : GamOK Try.prog (G N) := gam_ok (l := []) (trivial)
theorem snd (N : Nat) : Sound Try.prog E 37 (sp N) :=
  Mir.sound T_OK (G_ok N) mixed Try.func37 (c := code) (by kernel_rfl) (by kernel_rfl) (sp N) (Nat.le_of_ble_eq_true (by kernel_rfl)) live [] (by
    rintro ⟨a0, a1, a2, _⟩ r h
    exact ⟨N, 2, ((run N _ a0 a1 a2).trans rfl).trans h⟩)
end F37
/-! ### F38: loop.example/g00220/spec.l13Pending -/
namespace F38
abbrev R := Int
noncomputable def step2 (N : Nat) (a0 : List CallRecord) (a1 : Int) (rec : Int → Option R) : Int → Option R
  | v2 =>
    bif (decide (v2 ≥ (0:Int))) then
      bif (decide (0 ≤ v2)) then
      bif (decide (v2 < (a0.length : Int))) then
      bif ((a0.getD (Int.toNat v2) CallRecord.dz).Client == a1) then
        bif (decide (0 ≤ v2)) then
        bif (decide (v2 < (a0.length : Int))) then
        bif (bif true then (decide ((a0.getD (Int.toNat v2) CallRecord.dz).End < (0:Int))) else false) then
          some v2
        else
        rec (w64 (v2 - (1:Int)))
        else none
        else none
      else
      rec (w64 (v2 - (1:Int)))
      else none
      else none
    else
    some (-1:Int)
noncomputable def lp2 (N : Nat) (a0 : List CallRecord) (a1 : Int) : Int → Option R :=
  miter (fun rec => step2 N a0 a1 rec) N
noncomputable def m (N : Nat) (a0 : List CallRecord) (a1 : Int) : Option R :=
  lp2 N a0 a1 (w64 ((a0.length : Int) - (1:Int)))
@[reducible] noncomputable def sp (N : Nat) : Spec E := { ps := [.val (.slice 77 (.st 77)), .val (.int .i64)], rs := [(.int .i64)], own := true, R := R, fn := fun x => m N x.1 x.2.1, res := fun r => (r, ()), out := fun r => ((), (), ()), shut := fun a b => a.1, res_shut := fun _ _ => rfl, out_shut := fun _ _ => rfl }
end F38
namespace F38
noncomputable def code : Code := Try.f38.body.getD .skip
abbrev live : Live := [(2, [0, 1, 5])]
noncomputable def G (N : Nat) : Ctx E := gam []
noncomputable def loop2 : Code := codeAt code [1, 0, 1, 0]
noncomputable def body2 : Code := codeAt loop2 [0]
noncomputable def K2 (N : Nat) (o0 : Orc E R) : KT E R := kAt T (G N) live [] o0 code [1, 0, 1, 0] (kfin T Try.f38 (sp N))
noncomputable def St2 (a0 : List CallRecord) (a1 : Int) : Int → St E
  | v2 => { ρ := [(0, .c (.at (.ro 77 (.st 77) a0))), (1, .c (.at (.int .i64 a1))), (5, .c (.at (.int .i64 v2)))], H := [], nx := 0, n := 29, pin := [] }
noncomputable def m0 (N : Nat) (a0 : List CallRecord) (a1 : Int) (lp2 : Int → Option R) : Option R :=
  lp2 (w64 ((a0.length : Int) - (1:Int)))
theorem run (N : Nat) (o0 : Orc E R) (a0 : List CallRecord) (a1 : Int) : runF T (G N) live [] Try.f38 code (sp N) o0 (a0, a1, ()) = m0 N a0 a1 (fun a => o0 loop2 (K2 N o0) (St2 a0 a1 a)) := by kernel_rfl
theorem body2_0 (N : Nat) (o0 : Orc E R) (o1 : Orc E R) (q1 : St E → Option R) (a0 : List CallRecord) (a1 : Int) (v2 : Int) : runA T (G N) live [] o1 body2 (St2 a0 a1 v2) (kloop [0, 1, 5] q1 (K2 N o0)) = step2 N a0 a1 (fun a => q1 (St2 a0 a1 a)) v2 := by kernel_rfl
theorem lp2_eq (N : Nat) (a0 : List CallRecord) (a1 : Int) (a : Int) : (orc T (G N) live [] N 2) loop2 (K2 N (orc T (G N) live [] N 2)) (St2 a0 a1 a) = lp2 N a0 a1 a :=
  (orc_loop (b := body2) (live := [0, 1, 5]) (by kernel_rfl)).trans (iter_eq (St2 a0 a1) _ _ (fun q1 a => by
    have hc := congrFun (congrFun (rfl : (step2 N a0 a1) = (step2 N a0 a1)) (fun a => q1 (St2 a0 a1 a))) a
    exact (body2_0 N (orc T (G N) live [] N 2) (orc T (G N) live [] N 1) q1 a0 a1 a).trans hc) N a)
theorem G_ok (N : Nat) : GamOK Try.prog (G N) := gam_ok (l := []) (trivial)
theorem snd (N : Nat) : Sound Try.prog E 38 (sp N) :=
  Mir.sound T_OK (G_ok N) mixed Try.func38 (c := code) (by kernel_rfl) (by kernel_rfl) (sp N) (Nat.le_of_ble_eq_true (by kernel_rfl)) live [] (by
    rintro ⟨a0, a1, _⟩ r h
    exact ⟨N, 2, ((run N _ a0 a1).trans (congrArg (m0 N a0 a1) (funext fun a => lp2_eq N a0 a1 a))).trans h⟩)
end F38
/-! ### F14: loop.example/g00220/spec.PendingCall -/
namespace F14
abbrev R := Int × Int
noncomputable def m (N : Nat) (a0 : List CallRecord) (a1 : Int) : Option R :=
  bif (decide ((a0.length : Int) > (4096:Int))) then
    some ((0:Int), (2:Int))
  else
  ob (F37.m N a1 (0:Int) (2:Int)) fun y1 =>
  bif (!y1) then
    some ((0:Int), (4:Int))
  else
  ob (F38.m N a0 a1) fun y2 =>
  bif (decide (y2 < (0:Int))) then
    some ((0:Int), (5:Int))
  else
  some (y2, (0:Int))
@[reducible] noncomputable def sp (N : Nat) : Spec E := { ps := [.val (.slice 77 (.st 77)), .val (.int .i64)], rs := [(.int .i64), (.int .i64)], own := true, R := R, fn := fun x => m N x.1 x.2.1, res := fun r => (r.1, r.2, ()), out := fun r => ((), (), ()), shut := fun a b => (a.1, a.2.1), res_shut := fun _ _ => rfl, out_shut := fun _ _ => rfl }
end F14
namespace F14
noncomputable def code : Code := Try.f14.body.getD .skip
abbrev live : Live := []
noncomputable def G (N : Nat) : Ctx E := gam [(37, [], F37.sp N), (38, [], F38.sp N)]
noncomputable def m0 (N : Nat) (a0 : List CallRecord) (a1 : Int) : Option R :=
  bif (decide ((a0.length : Int) > (4096:Int))) then
    some ((0:Int), (2:Int))
  else
  ob (F37.m N a1 (0:Int) (2:Int)) fun y1 =>
  bif (!y1) then
    some ((0:Int), (4:Int))
  else
  ob (F38.m N a0 a1) fun y2 =>
  bif (decide (y2 < (0:Int))) then
    some ((0:Int), (5:Int))
  else
  some (y2, (0:Int))
theorem run (N : Nat) (o0 : Orc E R) (a0 : List CallRecord) (a1 : Int) : runF T (G N) live [] Try.f14 code (sp N) o0 (a0, a1, ()) = m0 N a0 a1 := by kernel_rfl
theorem G_ok (N : Nat) : GamOK Try.prog (G N) := gam_ok (l := [(37, [], F37.sp N), (38, [], F38.sp N)]) (⟨F37.snd N, F38.snd N, trivial⟩)
theorem snd (N : Nat) : Sound Try.prog E 14 (sp N) :=
  Mir.sound T_OK (G_ok N) mixed Try.func14 (c := code) (by kernel_rfl) (by kernel_rfl) (sp N) (Nat.le_of_ble_eq_true (by kernel_rfl)) live [] (by
    rintro ⟨a0, a1, _⟩ r h
    exact ⟨N, 2, ((run N _ a0 a1).trans rfl).trans h⟩)
end F14
/-! ### F40: loop.example/g00220/impl.isList[loop.example/g00220/impl.CallRecord] -/
namespace F40
abbrev R := Bool
noncomputable def m (N : Nat) (a0 : List CallRecord) : Option R :=
  some (decide ((a0.length : Int) ≤ (4096:Int)))
@[reducible] noncomputable def sp (N : Nat) : Spec E := { ps := [.val (.slice 77 (.st 77))], rs := [.bool], own := true, R := R, fn := fun x => m N x.1, res := fun r => (r, ()), out := fun r => ((), ()), shut := fun a b => a.1, res_shut := fun _ _ => rfl, out_shut := fun _ _ => rfl }
end F40
namespace F40
noncomputable def code : Code := Try.f40.body.getD .skip
abbrev live : Live := []
noncomputable def G (N : Nat) : Ctx E := gam []
noncomputable def m0 (N : Nat) (a0 : List CallRecord) : Option R :=
  some (decide ((a0.length : Int) ≤ (4096:Int)))
theorem run (N : Nat) (o0 : Orc E R) (a0 : List CallRecord) : runF T (G N) live [] Try.f40 code (sp N) o0 (a0, ()) = m0 N a0 := by kernel_rfl
theorem G_ok (N : Nat) : GamOK Try.prog (G N) := gam_ok (l := []) (trivial)
theorem snd (N : Nat) : Sound Try.prog E 40 (sp N) :=
  Mir.sound T_OK (G_ok N) mixed Try.func40 (c := code) (by kernel_rfl) (by kernel_rfl) (sp N) (Nat.le_of_ble_eq_true (by kernel_rfl)) live [] (by
    rintro ⟨a0, _⟩ r h
    exact ⟨N, 2, ((run N _ a0).trans rfl).trans h⟩)
end F40
/-! ### F41: loop.example/g00220/impl.within -/
namespace F41
abbrev R := Bool
noncomputable def m (N : Nat) (a0 : Int) (a1 : Int) (a2 : Int) : Option R :=
  bif (decide (a0 ≥ a1)) then
    some (bif true then (decide (a0 ≤ a2)) else false)
  else
  some false
@[reducible] noncomputable def sp (N : Nat) : Spec E := { ps := [.val (.int .i64), .val (.int .i64), .val (.int .i64)], rs := [.bool], own := true, R := R, fn := fun x => m N x.1 x.2.1 x.2.2.1, res := fun r => (r, ()), out := fun r => ((), (), (), ()), shut := fun a b => a.1, res_shut := fun _ _ => rfl, out_shut := fun _ _ => rfl }
end F41
namespace F41
noncomputable def code : Code := Try.f41.body.getD .skip
abbrev live : Live := []
noncomputable def G (N : Nat) : Ctx E := gam []
noncomputable def m0 (N : Nat) (a0 : Int) (a1 : Int) (a2 : Int) : Option R :=
  bif (decide (a0 ≥ a1)) then
    some (bif true then (decide (a0 ≤ a2)) else false)
  else
  some false
theorem run (N : Nat) (o0 : Orc E R) (a0 : Int) (a1 : Int) (a2 : Int) : runF T (G N) live [] Try.f41 code (sp N) o0 (a0, a1, a2, ()) = m0 N a0 a1 a2 := by kernel_rfl
theorem G_ok (N : Nat) : GamOK Try.prog (G N) := gam_ok (l := []) (trivial)
theorem snd (N : Nat) : Sound Try.prog E 41 (sp N) :=
  Mir.sound T_OK (G_ok N) mixed Try.func41 (c := code) (by kernel_rfl) (by kernel_rfl) (sp N) (Nat.le_of_ble_eq_true (by kernel_rfl)) live [] (by
    rintro ⟨a0, a1, a2, _⟩ r h
    exact ⟨N, 2, ((run N _ a0 a1 a2).trans rfl).trans h⟩)
end F41
/-! ### F42: loop.example/g00220/impl.pending -/
namespace F42
abbrev R := Int
noncomputable def step2 (N : Nat) (a0 : List CallRecord) (a1 : Int) (rec : Int → Option R) : Int → Option R
  | v2 =>
    bif (decide (v2 ≥ (0:Int))) then
      bif (decide (0 ≤ v2)) then
      bif (decide (v2 < (a0.length : Int))) then
      bif ((a0.getD (Int.toNat v2) CallRecord.dz).Client == a1) then
        bif (decide (0 ≤ v2)) then
        bif (decide (v2 < (a0.length : Int))) then
        bif (bif true then (decide ((a0.getD (Int.toNat v2) CallRecord.dz).End < (0:Int))) else false) then
          some v2
        else
        rec (w64 (v2 - (1:Int)))
        else none
        else none
      else
      rec (w64 (v2 - (1:Int)))
      else none
      else none
    else
    some (-1:Int)
noncomputable def lp2 (N : Nat) (a0 : List CallRecord) (a1 : Int) : Int → Option R :=
  miter (fun rec => step2 N a0 a1 rec) N
noncomputable def m (N : Nat) (a0 : List CallRecord) (a1 : Int) : Option R :=
  lp2 N a0 a1 (w64 ((a0.length : Int) - (1:Int)))
@[reducible] noncomputable def sp (N : Nat) : Spec E := { ps := [.val (.slice 77 (.st 77)), .val (.int .i64)], rs := [(.int .i64)], own := true, R := R, fn := fun x => m N x.1 x.2.1, res := fun r => (r, ()), out := fun r => ((), (), ()), shut := fun a b => a.1, res_shut := fun _ _ => rfl, out_shut := fun _ _ => rfl }
end F42
namespace F42
noncomputable def code : Code := Try.f42.body.getD .skip
abbrev live : Live := [(2, [0, 1, 5])]
noncomputable def G (N : Nat) : Ctx E := gam []
noncomputable def loop2 : Code := codeAt code [1, 0, 1, 0]
noncomputable def body2 : Code := codeAt loop2 [0]
noncomputable def K2 (N : Nat) (o0 : Orc E R) : KT E R := kAt T (G N) live [] o0 code [1, 0, 1, 0] (kfin T Try.f42 (sp N))
noncomputable def St2 (a0 : List CallRecord) (a1 : Int) : Int → St E
  | v2 => { ρ := [(0, .c (.at (.ro 77 (.st 77) a0))), (1, .c (.at (.int .i64 a1))), (5, .c (.at (.int .i64 v2)))], H := [], nx := 0, n := 29, pin := [] }
noncomputable def m0 (N : Nat) (a0 : List CallRecord) (a1 : Int) (lp2 : Int → Option R) : Option R :=
  lp2 (w64 ((a0.length : Int) - (1:Int)))
theorem run (N : Nat) (o0 : Orc E R) (a0 : List CallRecord) (a1 : Int) : runF T (G N) live [] Try.f42 code (sp N) o0 (a0, a1, ()) = m0 N a0 a1 (fun a => o0 loop2 (K2 N o0) (St2 a0 a1 a)) := by kernel_rfl
theorem body2_0 (N : Nat) (o0 : Orc E R) (o1 : Orc E R) (q1 : St E → Option R) (a0 : List CallRecord) (a1 : Int) (v2 : Int) : runA T (G N) live [] o1 body2 (St2 a0 a1 v2) (kloop [0, 1, 5] q1 (K2 N o0)) = step2 N a0 a1 (fun a => q1 (St2 a0 a1 a)) v2 := by kernel_rfl
theorem lp2_eq (N : Nat) (a0 : List CallRecord) (a1 : Int) (a : Int) : (orc T (G N) live [] N 2) loop2 (K2 N (orc T (G N) live [] N 2)) (St2 a0 a1 a) = lp2 N a0 a1 a :=
  (orc_loop (b := body2) (live := [0, 1, 5]) (by kernel_rfl)).trans (iter_eq (St2 a0 a1) _ _ (fun q1 a => by
    have hc := congrFun (congrFun (rfl : (step2 N a0 a1) = (step2 N a0 a1)) (fun a => q1 (St2 a0 a1 a))) a
    exact (body2_0 N (orc T (G N) live [] N 2) (orc T (G N) live [] N 1) q1 a0 a1 a).trans hc) N a)
theorem G_ok (N : Nat) : GamOK Try.prog (G N) := gam_ok (l := []) (trivial)
theorem snd (N : Nat) : Sound Try.prog E 42 (sp N) :=
  Mir.sound T_OK (G_ok N) mixed Try.func42 (c := code) (by kernel_rfl) (by kernel_rfl) (sp N) (Nat.le_of_ble_eq_true (by kernel_rfl)) live [] (by
    rintro ⟨a0, a1, _⟩ r h
    exact ⟨N, 2, ((run N _ a0 a1).trans (congrArg (m0 N a0 a1) (funext fun a => lp2_eq N a0 a1 a))).trans h⟩)
end F42
/-! ### F16: loop.example/g00220/impl.PendingCall -/
namespace F16
abbrev R := Int × Int
noncomputable def m (N : Nat) (a0 : List CallRecord) (a1 : Int) : Option R :=
  ob (F40.m N a0) fun y1 =>
  bif (!y1) then
    some ((0:Int), (2:Int))
  else
  ob (F41.m N a1 (0:Int) (2:Int)) fun y2 =>
  bif (!y2) then
    some ((0:Int), (4:Int))
  else
  ob (F42.m N a0 a1) fun y3 =>
  bif (decide (y3 < (0:Int))) then
    some ((0:Int), (5:Int))
  else
  some (y3, (0:Int))
@[reducible] noncomputable def sp (N : Nat) : Spec E := { ps := [.val (.slice 77 (.st 77)), .val (.int .i64)], rs := [(.int .i64), (.int .i64)], own := true, R := R, fn := fun x => m N x.1 x.2.1, res := fun r => (r.1, r.2, ()), out := fun r => ((), (), ()), shut := fun a b => (a.1, a.2.1), res_shut := fun _ _ => rfl, out_shut := fun _ _ => rfl }
end F16
namespace F16
noncomputable def code : Code := Try.f16.body.getD .skip
abbrev live : Live := []
noncomputable def G (N : Nat) : Ctx E := gam [(40, [], F40.sp N), (41, [], F41.sp N), (42, [], F42.sp N)]
noncomputable def m0 (N : Nat) (a0 : List CallRecord) (a1 : Int) : Option R :=
  ob (F40.m N a0) fun y1 =>
  bif (!y1) then
    some ((0:Int), (2:Int))
  else
  ob (F41.m N a1 (0:Int) (2:Int)) fun y2 =>
  bif (!y2) then
    some ((0:Int), (4:Int))
  else
  ob (F42.m N a0 a1) fun y3 =>
  bif (decide (y3 < (0:Int))) then
    some ((0:Int), (5:Int))
  else
  some (y3, (0:Int))
theorem run (N : Nat) (o0 : Orc E R) (a0 : List CallRecord) (a1 : Int) : runF T (G N) live [] Try.f16 code (sp N) o0 (a0, a1, ()) = m0 N a0 a1 := by kernel_rfl
theorem G_ok (N : Nat) : GamOK Try.prog (G N) := gam_ok (l := [(40, [], F40.sp N), (41, [], F41.sp N), (42, [], F42.sp N)]) (⟨F40.snd N, F41.snd N, F42.snd N, trivial⟩)
theorem snd (N : Nat) : Sound Try.prog E 16 (sp N) :=
  Mir.sound T_OK (G_ok N) mixed Try.func16 (c := code) (by kernel_rfl) (by kernel_rfl) (sp N) (Nat.le_of_ble_eq_true (by kernel_rfl)) live [] (by
    rintro ⟨a0, a1, _⟩ r h
    exact ⟨N, 2, ((run N _ a0 a1).trans rfl).trans h⟩)
end F16
end Mir.Y
