/- The models are what the functions do. -/
import Derived.Test.YtohcahijaoemjaaDM3
namespace Mir.Y
set_option linter.unusedVariables false
set_option maxRecDepth 10000
open Go Go.Proofs Mir
namespace laws_szStringS
noncomputable def code : Code := Try.f76.body.getD .skip
abbrev live : Live := [(5, [0, 1, 5])]
noncomputable def G (N : Nat) : Ctx E := gam []
noncomputable def loop5 : Code := codeAt code [1, 1, 1, 0, 1, 0]
noncomputable def body5 : Code := codeAt loop5 [0]
noncomputable def K5 (N : Nat) (o0 : Orc E R) : KT E R := kAt T (G N) live [] o0 code [1, 1, 1, 0, 1, 0] (kfin T Try.f76 (sp N))
noncomputable def St5 (a0 : List ByteArray) (a1 : Int) : (Int × Int) → St E
  | (v1, v2) => { ρ := [(0, .c (.at (.ro 9 .str a0))), (1, .c (.at (.int .i64 v1))), (5, .c (.at (.int .i64 v2)))], H := [], nx := 0, n := 28, pin := [] }
noncomputable def m0 (N : Nat) (a0 : List ByteArray) (a1 : Int) (lp5 : Int × Int → Option R) : Option R :=
  bif (decide ((w64 (a1 - (a0.length : Int))) < (0:Int))) then
    some (-1:Int)
  else
  lp5 ((w64 (a1 - (a0.length : Int))), (0:Int))
theorem run (N : Nat) (o0 : Orc E R) (a0 : List ByteArray) (a1 : Int) : runF T (G N) live [] Try.f76 code (sp N) o0 (a0, a1, ()) = m0 N a0 a1 (fun a => o0 loop5 (K5 N o0) (St5 a0 a1 a)) := by kernel_rfl
theorem body5_0 (N : Nat) (o0 : Orc E R) (o1 : Orc E R) (q1 : St E → Option R) (a0 : List ByteArray) (a1 : Int) (v1 : Int) (v2 : Int) : runA T (G N) live [] o1 body5 (St5 a0 a1 (v1, v2)) (kloop [0, 1, 5] q1 (K5 N o0)) = step5 N a0 a1 (fun a => q1 (St5 a0 a1 a)) (v1, v2) := by kernel_rfl
theorem lp5_eq (N : Nat) (a0 : List ByteArray) (a1 : Int) (a : Int × Int) : (orc T (G N) live [] N 2) loop5 (K5 N (orc T (G N) live [] N 2)) (St5 a0 a1 a) = lp5 N a0 a1 a :=
  (orc_loop (b := body5) (live := [0, 1, 5]) (by kernel_rfl)).trans (iter_eq (St5 a0 a1) _ _ (fun q1 a => by
    have hc := congrFun (congrFun (rfl : (step5 N a0 a1) = (step5 N a0 a1)) (fun a => q1 (St5 a0 a1 a))) a
    obtain ⟨u0, u1⟩ := a
    exact (body5_0 N (orc T (G N) live [] N 2) (orc T (G N) live [] N 1) q1 a0 a1 u0 u1).trans hc) N a)
theorem G_ok (N : Nat) : GamOK Try.prog (G N) := gam_ok (l := []) (trivial)
theorem snd (N : Nat) : Sound Try.prog E 76 (sp N) :=
  Mir.sound T_OK (G_ok N) mixed Try.func76 (c := code) (by kernel_rfl) (by kernel_rfl) (sp N) (Nat.le_of_ble_eq_true (by kernel_rfl)) live [] (by
    rintro ⟨a0, a1, _⟩ r h
    exact ⟨N, 2, ((run N _ a0 a1).trans (congrArg (m0 N a0 a1) (funext fun a => lp5_eq N a0 a1 a))).trans h⟩)
end laws_szStringS
namespace laws_szSignature
noncomputable def code : Code := Try.f35.body.getD .skip
abbrev live : Live := []
noncomputable def G (N : Nat) : Ctx E := gam [(76, [], laws_szStringS.sp N)]
noncomputable def m0 (N : Nat) (a0 : Signature) (a1 : Int) : Option R :=
  ob (laws_szStringS.m N a0.Parts a1) fun y1 =>
  bif (decide (y1 < (0:Int))) then
    some (-1:Int)
  else
  ob (laws_szStringS.m N a0.Path y1) fun y2 =>
  bif (decide (y2 < (0:Int))) then
    some (-1:Int)
  else
  some y2
theorem run (N : Nat) (o0 : Orc E R) (a0 : Signature) (a1 : Int) : runF T (G N) live [] Try.f35 code (sp N) o0 (a0, a1, ()) = m0 N a0 a1 := by kernel_rfl
theorem G_ok (N : Nat) : GamOK Try.prog (G N) := gam_ok (l := [(76, [], laws_szStringS.sp N)]) (⟨laws_szStringS.snd N, trivial⟩)
theorem snd (N : Nat) : Sound Try.prog E 35 (sp N) :=
  Mir.sound T_OK (G_ok N) mixed Try.func35 (c := code) (by kernel_rfl) (by kernel_rfl) (sp N) (Nat.le_of_ble_eq_true (by kernel_rfl)) live [] (by
    rintro ⟨a0, a1, _⟩ r h
    exact ⟨N, 2, ((run N _ a0 a1).trans rfl).trans h⟩)
end laws_szSignature
namespace laws_toStringS
noncomputable def code : Code := Try.f79.body.getD .skip
abbrev live : Live := [(3, [0, 3, 4])]
noncomputable def G (N : Nat) : Ctx E := gam []
noncomputable def loop3 : Code := codeAt code [1, 1, 0, 1, 0]
noncomputable def body3 : Code := codeAt loop3 [0]
noncomputable def K3 (N : Nat) (o0 : Orc E R) : KT E R := kAt T (G N) live [] o0 code [1, 1, 0, 1, 0] (kfin T Try.f79 (sp N))
noncomputable def St3 (a0 : List ByteArray) : (Int × (List ByteArray)) → St E
  | (v1, v2) => { ρ := [(0, .c (.at (.ro 9 .str a0))), (3, .c (.at (.own 0))), (4, .c (.at (.int .i64 v1)))], H := [(0, .row 9 .str v2 false)], nx := 1, n := 22, pin := [] }
noncomputable def m0 (N : Nat) (a0 : List ByteArray) (lp3 : Int × (List ByteArray) → Option R) : Option R :=
  bif (decide (0 ≤ (a0.length : Int))) then
  bif (room (Int.toNat (a0.length : Int)) 16) then
  lp3 ((0:Int), (List.replicate (Int.toNat (a0.length : Int)) ByteArray.empty))
  else none
  else none
theorem run (N : Nat) (o0 : Orc E R) (a0 : List ByteArray) : runF T (G N) live [] Try.f79 code (sp N) o0 (a0, ()) = m0 N a0 (fun a => o0 loop3 (K3 N o0) (St3 a0 a)) := by kernel_rfl
theorem body3_0 (N : Nat) (o0 : Orc E R) (o1 : Orc E R) (q1 : St E → Option R) (a0 : List ByteArray) (v1 : Int) (v2 : List ByteArray) : runA T (G N) live [] o1 body3 (St3 a0 (v1, v2)) (kloop [0, 3, 4] q1 (K3 N o0)) = step3 N a0 (fun a => q1 (St3 a0 a)) (v1, v2) := by kernel_rfl
theorem lp3_eq (N : Nat) (a0 : List ByteArray) (a : Int × (List ByteArray)) : (orc T (G N) live [] N 2) loop3 (K3 N (orc T (G N) live [] N 2)) (St3 a0 a) = lp3 N a0 a :=
  (orc_loop (b := body3) (live := [0, 3, 4]) (by kernel_rfl)).trans (iter_eq (St3 a0) _ _ (fun q1 a => by
    have hc := congrFun (congrFun (rfl : (step3 N a0) = (step3 N a0)) (fun a => q1 (St3 a0 a))) a
    obtain ⟨u0, u1⟩ := a
    exact (body3_0 N (orc T (G N) live [] N 2) (orc T (G N) live [] N 1) q1 a0 u0 u1).trans hc) N a)
theorem G_ok (N : Nat) : GamOK Try.prog (G N) := gam_ok (l := []) (trivial)
theorem snd (N : Nat) : Sound Try.prog E 79 (sp N) :=
  Mir.sound T_OK (G_ok N) mixed Try.func79 (c := code) (by kernel_rfl) (by kernel_rfl) (sp N) (Nat.le_of_ble_eq_true (by kernel_rfl)) live [] (by
    rintro ⟨a0, _⟩ r h
    exact ⟨N, 2, ((run N _ a0).trans (congrArg (m0 N a0) (funext fun a => lp3_eq N a0 a))).trans h⟩)
end laws_toStringS
namespace laws_toSignature
noncomputable def code : Code := Try.f37.body.getD .skip
abbrev live : Live := []
noncomputable def G (N : Nat) : Ctx E := gam [(79, [], laws_toStringS.sp N)]
noncomputable def m0 (N : Nat) (a0 : Signature) : Option R :=
  ob (laws_toStringS.m N a0.Parts) fun y1 =>
  ob (laws_toStringS.m N a0.Path) fun y2 =>
  some (Signature.mk a0.Index y1 y2)
theorem run (N : Nat) (o0 : Orc E R) (a0 : Signature) : runF T (G N) live [] Try.f37 code (sp N) o0 (a0, ()) = m0 N a0 := by kernel_rfl
theorem G_ok (N : Nat) : GamOK Try.prog (G N) := gam_ok (l := [(79, [], laws_toStringS.sp N)]) (⟨laws_toStringS.snd N, trivial⟩)
theorem snd (N : Nat) : Sound Try.prog E 37 (sp N) :=
  Mir.sound T_OK (G_ok N) mixed Try.func37 (c := code) (by kernel_rfl) (by kernel_rfl) (sp N) (Nat.le_of_ble_eq_true (by kernel_rfl)) live [] (by
    rintro ⟨a0, _⟩ r h
    exact ⟨N, 2, ((run N _ a0).trans rfl).trans h⟩)
end laws_toSignature
namespace spec_l06Hashes
noncomputable def code : Code := Try.f77.body.getD .skip
abbrev live : Live := [(4, [0, 3])]
noncomputable def G (N : Nat) : Ctx E := gam []
noncomputable def loop4 : Code := codeAt code [1, 1, 0, 1, 0]
noncomputable def body4 : Code := codeAt loop4 [0]
noncomputable def K4 (N : Nat) (o0 : Orc E R) : KT E R := kAt T (G N) live [] o0 code [1, 1, 0, 1, 0] (kfin T Try.f77 (sp N))
noncomputable def St4 (a0 : List ByteArray) : Int → St E
  | v1 => { ρ := [(0, .c (.at (.ro 9 .str a0))), (3, .c (.at (.int .i64 v1)))], H := [], nx := 0, n := 19, pin := [] }
noncomputable def m0 (N : Nat) (a0 : List ByteArray) (lp4 : Int → Option R) : Option R :=
  bif (decide ((a0.length : Int) > (64:Int))) then
    some false
  else
  lp4 (0:Int)
theorem run (N : Nat) (o0 : Orc E R) (a0 : List ByteArray) : runF T (G N) live [] Try.f77 code (sp N) o0 (a0, ()) = m0 N a0 (fun a => o0 loop4 (K4 N o0) (St4 a0 a)) := by kernel_rfl
theorem body4_0 (N : Nat) (o0 : Orc E R) (o1 : Orc E R) (q1 : St E → Option R) (a0 : List ByteArray) (v1 : Int) : runA T (G N) live [] o1 body4 (St4 a0 v1) (kloop [0, 3] q1 (K4 N o0)) = step4 N a0 (fun a => q1 (St4 a0 a)) v1 := by kernel_rfl
theorem lp4_eq (N : Nat) (a0 : List ByteArray) (a : Int) : (orc T (G N) live [] N 2) loop4 (K4 N (orc T (G N) live [] N 2)) (St4 a0 a) = lp4 N a0 a :=
  (orc_loop (b := body4) (live := [0, 3]) (by kernel_rfl)).trans (iter_eq (St4 a0) _ _ (fun q1 a => by
    have hc := congrFun (congrFun (rfl : (step4 N a0) = (step4 N a0)) (fun a => q1 (St4 a0 a))) a
    exact (body4_0 N (orc T (G N) live [] N 2) (orc T (G N) live [] N 1) q1 a0 a).trans hc) N a)
theorem G_ok (N : Nat) : GamOK Try.prog (G N) := gam_ok (l := []) (trivial)
theorem snd (N : Nat) : Sound Try.prog E 77 (sp N) :=
  Mir.sound T_OK (G_ok N) mixed Try.func77 (c := code) (by kernel_rfl) (by kernel_rfl) (sp N) (Nat.le_of_ble_eq_true (by kernel_rfl)) live [] (by
    rintro ⟨a0, _⟩ r h
    exact ⟨N, 2, ((run N _ a0).trans (congrArg (m0 N a0) (funext fun a => lp4_eq N a0 a))).trans h⟩)
end spec_l06Hashes
namespace spec_l01In
noncomputable def code : Code := Try.f50.body.getD .skip
abbrev live : Live := []
noncomputable def G (N : Nat) : Ctx E := gam []
noncomputable def m0 (N : Nat) (a0 : Int) (a1 : Int) (a2 : Int) : Option R :=
  bif (decide (a0 ≥ a1)) then
    some (bif true then (decide (a0 ≤ a2)) else false)
  else
  some false
theorem run (N : Nat) (o0 : Orc E R) (a0 : Int) (a1 : Int) (a2 : Int) : runF T (G N) live [] Try.f50 code (sp N) o0 (a0, a1, a2, ()) = m0 N a0 a1 a2 := by kernel_rfl
theorem G_ok (N : Nat) : GamOK Try.prog (G N) := gam_ok (l := []) (trivial)
theorem snd (N : Nat) : Sound Try.prog E 50 (sp N) :=
  Mir.sound T_OK (G_ok N) mixed Try.func50 (c := code) (by kernel_rfl) (by kernel_rfl) (sp N) (Nat.le_of_ble_eq_true (by kernel_rfl)) live [] (by
    rintro ⟨a0, a1, a2, _⟩ r h
    exact ⟨N, 2, ((run N _ a0 a1 a2).trans rfl).trans h⟩)
end spec_l01In
namespace spec_l08Index
noncomputable def code : Code := Try.f56.body.getD .skip
abbrev live : Live := []
noncomputable def G (N : Nat) : Ctx E := gam [(50, [], spec_l01In.sp N)]
noncomputable def m0 (N : Nat) (a0 : Int) : Option R :=
  ob (spec_l01In.m N a0 (0:Int) (3:Int)) fun y1 =>
  some y1
theorem run (N : Nat) (o0 : Orc E R) (a0 : Int) : runF T (G N) live [] Try.f56 code (sp N) o0 (a0, ()) = m0 N a0 := by kernel_rfl
theorem G_ok (N : Nat) : GamOK Try.prog (G N) := gam_ok (l := [(50, [], spec_l01In.sp N)]) (⟨spec_l01In.snd N, trivial⟩)
theorem snd (N : Nat) : Sound Try.prog E 56 (sp N) :=
  Mir.sound T_OK (G_ok N) mixed Try.func56 (c := code) (by kernel_rfl) (by kernel_rfl) (sp N) (Nat.le_of_ble_eq_true (by kernel_rfl)) live [] (by
    rintro ⟨a0, _⟩ r h
    exact ⟨N, 2, ((run N _ a0).trans rfl).trans h⟩)
end spec_l08Index
namespace spec_l01Consts
noncomputable def code : Code := Try.f110.body.getD .skip
abbrev live : Live := []
noncomputable def G (N : Nat) : Ctx E := gam []
noncomputable def m0 (N : Nat) : Option R :=
  (let w1 : List Int := [(1116352408:Int), (1899447441:Int), (3049323471:Int), (3921009573:Int), (961987163:Int), (1508970993:Int), (2453635748:Int), (2870763221:Int), (3624381080:Int), (310598401:Int), (607225278:Int), (1426881987:Int), (1925078388:Int), (2162078206:Int), (2614888103:Int), (3248222580:Int), (3835390401:Int), (4022224774:Int), (264347078:Int), (604807628:Int), (770255983:Int), (1249150122:Int), (1555081692:Int), (1996064986:Int), (2554220882:Int), (2821834349:Int), (2952996808:Int), (3210313671:Int), (3336571891:Int), (3584528711:Int), (113926993:Int), (338241895:Int), (666307205:Int), (773529912:Int), (1294757372:Int), (1396182291:Int), (1695183700:Int), (1986661051:Int), (2177026350:Int), (2456956037:Int), (2730485921:Int), (2820302411:Int), (3259730800:Int), (3345764771:Int), (3516065817:Int), (3600352804:Int), (4094571909:Int), (275423344:Int), (430227734:Int), (506948616:Int), (659060556:Int), (883997877:Int), (958139571:Int), (1322822218:Int), (1537002063:Int), (1747873779:Int), (1955562222:Int), (2024104815:Int), (2227730452:Int), (2361852424:Int), (2428436474:Int), (2756734187:Int), (3204031479:Int), (3329325298:Int)]
  some w1)
theorem run (N : Nat) (o0 : Orc E R) : runF T (G N) live [] Try.f110 code (sp N) o0 () = m0 N := by kernel_rfl
theorem G_ok (N : Nat) : GamOK Try.prog (G N) := gam_ok (l := []) (trivial)
theorem snd (N : Nat) : Sound Try.prog E 110 (sp N) :=
  Mir.sound T_OK (G_ok N) mixed Try.func110 (c := code) (by kernel_rfl) (by kernel_rfl) (sp N) (Nat.le_of_ble_eq_true (by kernel_rfl)) live [] (by
    rintro _ r h
    exact ⟨N, 2, ((run N _).trans rfl).trans h⟩)
end spec_l01Consts
namespace spec_l01Turn
noncomputable def code : Code := Try.f119.body.getD .skip
abbrev live : Live := []
noncomputable def G (N : Nat) : Ctx E := gam []
noncomputable def m0 (N : Nat) (a0 : Int) (a1 : Int) : Option R :=
  bif (!decide (a1 < 0)) then
  bif (!decide ((wu64 ((32:Int) - a1)) < 0)) then
  some (ibit .or .u32 (Int.fdiv a0 (2 ^ (min (Int.toNat a1) 32))) (wu32 (a0 * 2 ^ (min (Int.toNat (wu64 ((32:Int) - a1))) 32))))
  else none
  else none
theorem run (N : Nat) (o0 : Orc E R) (a0 : Int) (a1 : Int) : runF T (G N) live [] Try.f119 code (sp N) o0 (a0, a1, ()) = m0 N a0 a1 := by kernel_rfl
theorem G_ok (N : Nat) : GamOK Try.prog (G N) := gam_ok (l := []) (trivial)
theorem snd (N : Nat) : Sound Try.prog E 119 (sp N) :=
  Mir.sound T_OK (G_ok N) mixed Try.func119 (c := code) (by kernel_rfl) (by kernel_rfl) (sp N) (Nat.le_of_ble_eq_true (by kernel_rfl)) live [] (by
    rintro ⟨a0, a1, _⟩ r h
    exact ⟨N, 2, ((run N _ a0 a1).trans rfl).trans h⟩)
end spec_l01Turn
namespace spec_l01Block
noncomputable def code : Code := Try.f111.body.getD .skip
abbrev live : Live := [(21, [0, 11, 17]), (13, [0, 2, 6, 11, 12]), (6, [0, 2, 6, 8]), (2, [0, 1, 2, 6, 7])]
noncomputable def G (N : Nat) : Ctx E := gam [(119, [], spec_l01Turn.sp N)]
noncomputable def loop2 : Code := codeAt code [1, 0, 1, 0]
noncomputable def body2 : Code := codeAt loop2 [0]
noncomputable def loop6 : Code := codeAt code [1, 1, 0, 1, 0]
noncomputable def body6 : Code := codeAt loop6 [0]
noncomputable def loop13 : Code := codeAt code [1, 1, 1, 1, 0, 1, 0]
noncomputable def body13 : Code := codeAt loop13 [0]
noncomputable def loop21 : Code := codeAt code [1, 1, 1, 1, 1, 1, 0]
noncomputable def body21 : Code := codeAt loop21 [0]
noncomputable def K2 (N : Nat) (o0 : Orc E R) : KT E R := kAt T (G N) live [] o0 code [1, 0, 1, 0] (kfin T Try.f111 (sp N))
noncomputable def St2 (a0 : List Int) (a1 : List Int) (a2 : List Int) : (Int × (List Int)) → St E
  | (v2, v4) => { ρ := [(0, .c (.at (.own 0))), (1, .c (.at (.ro 5 (.int .u8) a1))), (2, .c (.at (.ro 102 (.int .u32) a2))), (6, .c (.at (.own 1))), (7, .c (.at (.int .i64 v2)))], H := [(0, .row 102 (.int .u32) a0 false), (1, .row 102 (.int .u32) v4 false)], nx := 2, n := 222, pin := [0] }
noncomputable def K6 (N : Nat) (o0 : Orc E R) : KT E R := kAt T (G N) live [] o0 code [1, 1, 0, 1, 0] (kfin T Try.f111 (sp N))
noncomputable def St6 (a0 : List Int) (a1 : List Int) (a2 : List Int) : (Int × (List Int)) → St E
  | (v1, v3) => { ρ := [(0, .c (.at (.own 0))), (2, .c (.at (.ro 102 (.int .u32) a2))), (6, .c (.at (.own 1))), (8, .c (.at (.int .i64 v1)))], H := [(0, .row 102 (.int .u32) a0 false), (1, .row 102 (.int .u32) v3 false)], nx := 2, n := 222, pin := [0] }
noncomputable def K13 (N : Nat) (o0 : Orc E R) : KT E R := kAt T (G N) live [] o0 code [1, 1, 1, 1, 0, 1, 0] (kfin T Try.f111 (sp N))
noncomputable def St13 (a0 : List Int) (a1 : List Int) (a2 : List Int) : (Int × (List Int) × (List Int)) → St E
  | (v1, v3, v4) => { ρ := [(0, .c (.at (.own 0))), (2, .c (.at (.ro 102 (.int .u32) a2))), (6, .c (.at (.own 1))), (11, .c (.at (.own 2))), (12, .c (.at (.int .i64 v1)))], H := [(0, .row 102 (.int .u32) a0 false), (1, .row 102 (.int .u32) v3 false), (2, .row 102 (.int .u32) v4 false)], nx := 3, n := 222, pin := [0] }
noncomputable def K21 (N : Nat) (o0 : Orc E R) : KT E R := kAt T (G N) live [] o0 code [1, 1, 1, 1, 1, 1, 0] (kfin T Try.f111 (sp N))
noncomputable def St21 (a0 : List Int) (a1 : List Int) (a2 : List Int) : (Int × (List Int) × (List Int)) → St E
  | (v0, v1, v2) => { ρ := [(0, .c (.at (.own 0))), (11, .c (.at (.own 1))), (17, .c (.at (.int .i64 v0)))], H := [(0, .row 102 (.int .u32) v1 false), (1, .row 102 (.int .u32) v2 false)], nx := 2, n := 222, pin := [0] }
noncomputable def m0 (N : Nat) (a0 : List Int) (a1 : List Int) (a2 : List Int) (lp2 : Int × (List Int) → Option R) : Option R :=
  bif (decide (0 ≤ (64:Int))) then
  bif (room 64 4) then
  lp2 ((0:Int), (List.replicate 64 (0:Int)))
  else none
  else none
theorem run (N : Nat) (o0 : Orc E R) (a0 : List Int) (a1 : List Int) (a2 : List Int) : runF T (G N) live [] Try.f111 code (sp N) o0 (a0, a1, a2, ()) = m0 N a0 a1 a2 (fun a => o0 loop2 (K2 N o0) (St2 a0 a1 a2 a)) := by kernel_rfl
theorem body2_0 (N : Nat) (o0 : Orc E R) (o1 : Orc E R) (q1 : St E → Option R) (a0 : List Int) (a1 : List Int) (a2 : List Int) (v2 : Int) (v4 : List Int) : runA T (G N) live [] o1 body2 (St2 a0 a1 a2 (v2, v4)) (kloop [0, 1, 2, 6, 7] q1 (K2 N o0)) = step2 N a0 a1 a2 (fun a => o0 loop6 (K6 N o0) (St6 a0 a1 a2 a)) (fun a => q1 (St2 a0 a1 a2 a)) (v2, v4) := by kernel_rfl
theorem body6_0 (N : Nat) (o0 : Orc E R) (o1 : Orc E R) (q1 : St E → Option R) (a0 : List Int) (a1 : List Int) (a2 : List Int) (v1 : Int) (v3 : List Int) : runA T (G N) live [] o1 body6 (St6 a0 a1 a2 (v1, v3)) (kloop [0, 2, 6, 8] q1 (K6 N o0)) = step6 N a0 a1 a2 (fun a => o0 loop13 (K13 N o0) (St13 a0 a1 a2 a)) (fun a => q1 (St6 a0 a1 a2 a)) (v1, v3) := by kernel_rfl
theorem body13_0 (N : Nat) (o0 : Orc E R) (o1 : Orc E R) (q1 : St E → Option R) (a0 : List Int) (a1 : List Int) (a2 : List Int) (v1 : Int) (v3 : List Int) (v4 : List Int) : runA T (G N) live [] o1 body13 (St13 a0 a1 a2 (v1, v3, v4)) (kloop [0, 2, 6, 11, 12] q1 (K13 N o0)) = step13 N a0 a1 a2 (fun a => o0 loop21 (K21 N o0) (St21 a0 a1 a2 a)) (fun a => q1 (St13 a0 a1 a2 a)) (v1, v3, v4) := by kernel_rfl
theorem body21_0 (N : Nat) (o0 : Orc E R) (o1 : Orc E R) (q1 : St E → Option R) (a0 : List Int) (a1 : List Int) (a2 : List Int) (v0 : Int) (v1 : List Int) (v2 : List Int) : runA T (G N) live [] o1 body21 (St21 a0 a1 a2 (v0, v1, v2)) (kloop [0, 11, 17] q1 (K21 N o0)) = step21 N a0 a1 a2 (fun a => q1 (St21 a0 a1 a2 a)) (v0, v1, v2) := by kernel_rfl
theorem lp21_eq (N : Nat) (a0 : List Int) (a1 : List Int) (a2 : List Int) (a : Int × (List Int) × (List Int)) : (orc T (G N) live [] N 2) loop21 (K21 N (orc T (G N) live [] N 2)) (St21 a0 a1 a2 a) = lp21 N a0 a1 a2 a :=
  (orc_loop (b := body21) (live := [0, 11, 17]) (by kernel_rfl)).trans (iter_eq (St21 a0 a1 a2) _ _ (fun q1 a => by
    have hc := congrFun (congrFun (rfl : (step21 N a0 a1 a2) = (step21 N a0 a1 a2)) (fun a => q1 (St21 a0 a1 a2 a))) a
    obtain ⟨u0, u1, u2⟩ := a
    exact (body21_0 N (orc T (G N) live [] N 2) (orc T (G N) live [] N 1) q1 a0 a1 a2 u0 u1 u2).trans hc) N a)
theorem lp13_eq (N : Nat) (a0 : List Int) (a1 : List Int) (a2 : List Int) (a : Int × (List Int) × (List Int)) : (orc T (G N) live [] N 2) loop13 (K13 N (orc T (G N) live [] N 2)) (St13 a0 a1 a2 a) = lp13 N a0 a1 a2 a :=
  (orc_loop (b := body13) (live := [0, 2, 6, 11, 12]) (by kernel_rfl)).trans (iter_eq (St13 a0 a1 a2) _ _ (fun q1 a => by
    have hc := congrFun (congrFun (congrArg (step13 N a0 a1 a2) (funext fun a => lp21_eq N a0 a1 a2 a)) (fun a => q1 (St13 a0 a1 a2 a))) a
    obtain ⟨u0, u1, u2⟩ := a
    exact (body13_0 N (orc T (G N) live [] N 2) (orc T (G N) live [] N 1) q1 a0 a1 a2 u0 u1 u2).trans hc) N a)
theorem lp6_eq (N : Nat) (a0 : List Int) (a1 : List Int) (a2 : List Int) (a : Int × (List Int)) : (orc T (G N) live [] N 2) loop6 (K6 N (orc T (G N) live [] N 2)) (St6 a0 a1 a2 a) = lp6 N a0 a1 a2 a :=
  (orc_loop (b := body6) (live := [0, 2, 6, 8]) (by kernel_rfl)).trans (iter_eq (St6 a0 a1 a2) _ _ (fun q1 a => by
    have hc := congrFun (congrFun (congrArg (step6 N a0 a1 a2) (funext fun a => lp13_eq N a0 a1 a2 a)) (fun a => q1 (St6 a0 a1 a2 a))) a
    obtain ⟨u0, u1⟩ := a
    exact (body6_0 N (orc T (G N) live [] N 2) (orc T (G N) live [] N 1) q1 a0 a1 a2 u0 u1).trans hc) N a)
theorem lp2_eq (N : Nat) (a0 : List Int) (a1 : List Int) (a2 : List Int) (a : Int × (List Int)) : (orc T (G N) live [] N 2) loop2 (K2 N (orc T (G N) live [] N 2)) (St2 a0 a1 a2 a) = lp2 N a0 a1 a2 a :=
  (orc_loop (b := body2) (live := [0, 1, 2, 6, 7]) (by kernel_rfl)).trans (iter_eq (St2 a0 a1 a2) _ _ (fun q1 a => by
    have hc := congrFun (congrFun (congrArg (step2 N a0 a1 a2) (funext fun a => lp6_eq N a0 a1 a2 a)) (fun a => q1 (St2 a0 a1 a2 a))) a
    obtain ⟨u0, u1⟩ := a
    exact (body2_0 N (orc T (G N) live [] N 2) (orc T (G N) live [] N 1) q1 a0 a1 a2 u0 u1).trans hc) N a)
theorem G_ok (N : Nat) : GamOK Try.prog (G N) := gam_ok (l := [(119, [], spec_l01Turn.sp N)]) (⟨spec_l01Turn.snd N, trivial⟩)
theorem snd (N : Nat) : Sound Try.prog E 111 (sp N) :=
  Mir.sound T_OK (G_ok N) mixed Try.func111 (c := code) (by kernel_rfl) (by kernel_rfl) (sp N) (Nat.le_of_ble_eq_true (by kernel_rfl)) live [] (by
    rintro ⟨a0, a1, a2, _⟩ r h
    exact ⟨N, 2, ((run N _ a0 a1 a2).trans (congrArg (m0 N a0 a1 a2) (funext fun a => lp2_eq N a0 a1 a2 a))).trans h⟩)
end spec_l01Block
namespace spec_l01Hash
noncomputable def code : Code := Try.f91.body.getD .skip
abbrev live : Live := [(16, [3, 8, 9]), (11, [3, 4, 6, 7]), (6, [0, 3, 4, 5]), (3, [0, 3, 4])]
noncomputable def G (N : Nat) : Ctx E := gam [(110, [], spec_l01Consts.sp N), (111, [], spec_l01Block.sp N)]
noncomputable def loop3 : Code := codeAt code [1, 1, 1, 0, 0]
noncomputable def body3 : Code := codeAt loop3 [0]
noncomputable def loop6 : Code := codeAt code [1, 1, 1, 1, 0, 1, 0]
noncomputable def body6 : Code := codeAt loop6 [0]
noncomputable def loop11 : Code := codeAt code [1, 1, 1, 1, 1, 1, 0, 1, 0]
noncomputable def body11 : Code := codeAt loop11 [0]
noncomputable def loop16 : Code := codeAt code [1, 1, 1, 1, 1, 1, 1, 1, 0, 1, 0]
noncomputable def body16 : Code := codeAt loop16 [0]
noncomputable def K3 (N : Nat) (o0 : Orc E R) : KT E R := kAt T (G N) live [] o0 code [1, 1, 1, 0, 0] (kfin T Try.f91 (sp N))
noncomputable def St3 (a0 : List Int) : ((List Int) × (List Int)) → St E
  | (v1, v2) => { ρ := [(0, .c (.at (.ro 5 (.int .u8) a0))), (3, .c (.at (.own 0))), (4, .c (.at (.own 1)))], H := [(0, .row 102 (.int .u32) v1 false), (1, .row 5 (.int .u8) v2 false)], nx := 2, n := 86, pin := [] }
noncomputable def K6 (N : Nat) (o0 : Orc E R) : KT E R := kAt T (G N) live [] o0 code [1, 1, 1, 1, 0, 1, 0] (kfin T Try.f91 (sp N))
noncomputable def St6 (a0 : List Int) : (Int × (List Int) × (List Int)) → St E
  | (v1, v2, v3) => { ρ := [(0, .c (.at (.ro 5 (.int .u8) a0))), (3, .c (.at (.own 0))), (4, .c (.at (.own 1))), (5, .c (.at (.int .i64 v1)))], H := [(0, .row 102 (.int .u32) v2 false), (1, .row 5 (.int .u8) v3 false)], nx := 2, n := 86, pin := [] }
noncomputable def K11 (N : Nat) (o0 : Orc E R) : KT E R := kAt T (G N) live [] o0 code [1, 1, 1, 1, 1, 1, 0, 1, 0] (kfin T Try.f91 (sp N))
noncomputable def St11 (a0 : List Int) : (Int × (List Int) × (List Int) × (List Int)) → St E
  | (v0, v1, v2, v3) => { ρ := [(3, .c (.at (.own 0))), (4, .c (.at (.own 1))), (6, .c (.at (.own 2))), (7, .c (.at (.int .i64 v0)))], H := [(0, .row 102 (.int .u32) v1 false), (1, .row 5 (.int .u8) v2 false), (2, .row 102 (.int .u32) v3 false)], nx := 3, n := 86, pin := [] }
noncomputable def K16 (N : Nat) (o0 : Orc E R) : KT E R := kAt T (G N) live [] o0 code [1, 1, 1, 1, 1, 1, 1, 1, 0, 1, 0] (kfin T Try.f91 (sp N))
noncomputable def St16 (a0 : List Int) : (Int × (List Int) × (List Int)) → St E
  | (v0, v1, v2) => { ρ := [(3, .c (.at (.own 0))), (8, .c (.at (.own 1))), (9, .c (.at (.int .i64 v0)))], H := [(0, .row 102 (.int .u32) v1 false), (1, .row 5 (.int .u8) v2 false)], nx := 2, n := 86, pin := [] }
noncomputable def m0 (N : Nat) (a0 : List Int) (lp3 : (List Int) × (List Int) → Option R) : Option R :=
  (let w1 : List Int := [(1779033703:Int), (3144134277:Int), (1013904242:Int), (2773480762:Int), (1359893119:Int), (2600822924:Int), (528734635:Int), (1541459225:Int)]
  bif (room (([] : List Int).length + a0.length) 1) then
  bif (room ((([] : List Int) ++ a0).length + ([(128:Int)]).length) 1) then
  lp3 (w1, ((([] : List Int) ++ a0) ++ [(128:Int)]))
  else none
  else none)
theorem run (N : Nat) (o0 : Orc E R) (a0 : List Int) : runF T (G N) live [] Try.f91 code (sp N) o0 (a0, ()) = m0 N a0 (fun a => o0 loop3 (K3 N o0) (St3 a0 a)) := by kernel_rfl
theorem body3_0 (N : Nat) (o0 : Orc E R) (o1 : Orc E R) (q1 : St E → Option R) (a0 : List Int) (v1 : List Int) (v2 : List Int) : runA T (G N) live [] o1 body3 (St3 a0 (v1, v2)) (kloop [0, 3, 4] q1 (K3 N o0)) = step3 N a0 (fun a => o0 loop6 (K6 N o0) (St6 a0 a)) (fun a => q1 (St3 a0 a)) (v1, v2) := by kernel_rfl
theorem body6_0 (N : Nat) (o0 : Orc E R) (o1 : Orc E R) (q1 : St E → Option R) (a0 : List Int) (v1 : Int) (v2 : List Int) (v3 : List Int) : runA T (G N) live [] o1 body6 (St6 a0 (v1, v2, v3)) (kloop [0, 3, 4, 5] q1 (K6 N o0)) = step6 N a0 (fun a => o0 loop11 (K11 N o0) (St11 a0 a)) (fun a => q1 (St6 a0 a)) (v1, v2, v3) := by kernel_rfl
theorem body11_0 (N : Nat) (o0 : Orc E R) (o1 : Orc E R) (q1 : St E → Option R) (a0 : List Int) (v0 : Int) (v1 : List Int) (v2 : List Int) (v3 : List Int) : runA T (G N) live [] o1 body11 (St11 a0 (v0, v1, v2, v3)) (kloop [3, 4, 6, 7] q1 (K11 N o0)) = step11 N a0 (fun a => o0 loop16 (K16 N o0) (St16 a0 a)) (fun a => q1 (St11 a0 a)) (v0, v1, v2, v3) := by kernel_rfl
theorem body16_0 (N : Nat) (o0 : Orc E R) (o1 : Orc E R) (q1 : St E → Option R) (a0 : List Int) (v0 : Int) (v1 : List Int) (v2 : List Int) : runA T (G N) live [] o1 body16 (St16 a0 (v0, v1, v2)) (kloop [3, 8, 9] q1 (K16 N o0)) = step16 N a0 (fun a => q1 (St16 a0 a)) (v0, v1, v2) := by kernel_rfl
theorem lp16_eq (N : Nat) (a0 : List Int) (a : Int × (List Int) × (List Int)) : (orc T (G N) live [] N 2) loop16 (K16 N (orc T (G N) live [] N 2)) (St16 a0 a) = lp16 N a0 a :=
  (orc_loop (b := body16) (live := [3, 8, 9]) (by kernel_rfl)).trans (iter_eq (St16 a0) _ _ (fun q1 a => by
    have hc := congrFun (congrFun (rfl : (step16 N a0) = (step16 N a0)) (fun a => q1 (St16 a0 a))) a
    obtain ⟨u0, u1, u2⟩ := a
    exact (body16_0 N (orc T (G N) live [] N 2) (orc T (G N) live [] N 1) q1 a0 u0 u1 u2).trans hc) N a)
theorem lp11_eq (N : Nat) (a0 : List Int) (a : Int × (List Int) × (List Int) × (List Int)) : (orc T (G N) live [] N 2) loop11 (K11 N (orc T (G N) live [] N 2)) (St11 a0 a) = lp11 N a0 a :=
  (orc_loop (b := body11) (live := [3, 4, 6, 7]) (by kernel_rfl)).trans (iter_eq (St11 a0) _ _ (fun q1 a => by
    have hc := congrFun (congrFun (congrArg (step11 N a0) (funext fun a => lp16_eq N a0 a)) (fun a => q1 (St11 a0 a))) a
    obtain ⟨u0, u1, u2, u3⟩ := a
    exact (body11_0 N (orc T (G N) live [] N 2) (orc T (G N) live [] N 1) q1 a0 u0 u1 u2 u3).trans hc) N a)
theorem lp6_eq (N : Nat) (a0 : List Int) (a : Int × (List Int) × (List Int)) : (orc T (G N) live [] N 2) loop6 (K6 N (orc T (G N) live [] N 2)) (St6 a0 a) = lp6 N a0 a :=
  (orc_loop (b := body6) (live := [0, 3, 4, 5]) (by kernel_rfl)).trans (iter_eq (St6 a0) _ _ (fun q1 a => by
    have hc := congrFun (congrFun (congrArg (step6 N a0) (funext fun a => lp11_eq N a0 a)) (fun a => q1 (St6 a0 a))) a
    obtain ⟨u0, u1, u2⟩ := a
    exact (body6_0 N (orc T (G N) live [] N 2) (orc T (G N) live [] N 1) q1 a0 u0 u1 u2).trans hc) N a)
theorem lp3_eq (N : Nat) (a0 : List Int) (a : (List Int) × (List Int)) : (orc T (G N) live [] N 2) loop3 (K3 N (orc T (G N) live [] N 2)) (St3 a0 a) = lp3 N a0 a :=
  (orc_loop (b := body3) (live := [0, 3, 4]) (by kernel_rfl)).trans (iter_eq (St3 a0) _ _ (fun q1 a => by
    have hc := congrFun (congrFun (congrArg (step3 N a0) (funext fun a => lp6_eq N a0 a)) (fun a => q1 (St3 a0 a))) a
    obtain ⟨u0, u1⟩ := a
    exact (body3_0 N (orc T (G N) live [] N 2) (orc T (G N) live [] N 1) q1 a0 u0 u1).trans hc) N a)
theorem G_ok (N : Nat) : GamOK Try.prog (G N) := gam_ok (l := [(110, [], spec_l01Consts.sp N), (111, [], spec_l01Block.sp N)]) (⟨spec_l01Consts.snd N, spec_l01Block.snd N, trivial⟩)
theorem snd (N : Nat) : Sound Try.prog E 91 (sp N) :=
  Mir.sound T_OK (G_ok N) mixed Try.func91 (c := code) (by kernel_rfl) (by kernel_rfl) (sp N) (Nat.le_of_ble_eq_true (by kernel_rfl)) live [] (by
    rintro ⟨a0, _⟩ r h
    exact ⟨N, 2, ((run N _ a0).trans (congrArg (m0 N a0) (funext fun a => lp3_eq N a0 a))).trans h⟩)
end spec_l01Hash
namespace spec_l08Digits
noncomputable def code : Code := Try.f60.body.getD .skip
abbrev live : Live := [(9, [4, 5, 7]), (5, [3, 4, 5, 6])]
noncomputable def G (N : Nat) : Ctx E := gam [(91, [], spec_l01Hash.sp N)]
noncomputable def loop5 : Code := codeAt code [1, 1, 1, 1, 0, 1, 0]
noncomputable def body5 : Code := codeAt loop5 [0]
noncomputable def loop9 : Code := codeAt code [1, 1, 1, 1, 1, 0, 1, 0]
noncomputable def body9 : Code := codeAt loop9 [0]
noncomputable def K5 (N : Nat) (o0 : Orc E R) : KT E R := kAt T (G N) live [] o0 code [1, 1, 1, 1, 0, 1, 0] (kfin T Try.f60 (sp N))
noncomputable def St5 (a0 : ByteArray) : (ByteArray × Int × Int × (List Int)) → St E
  | (v0, v1, v2, v3) => { ρ := [(3, .c (.at (.str v0))), (4, .c (.at (.own 0))), (5, .c (.at (.int .i64 v1))), (6, .c (.at (.int .i64 v2)))], H := [(0, .row 3 (.int .i64) v3 false)], nx := 1, n := 47, pin := [] }
noncomputable def K9 (N : Nat) (o0 : Orc E R) : KT E R := kAt T (G N) live [] o0 code [1, 1, 1, 1, 1, 0, 1, 0] (kfin T Try.f60 (sp N))
noncomputable def St9 (a0 : ByteArray) : (Int × Int × (List Int)) → St E
  | (v0, v1, v2) => { ρ := [(4, .c (.at (.own 0))), (5, .c (.at (.int .i64 v0))), (7, .c (.at (.int .i64 v1)))], H := [(0, .row 3 (.int .i64) v2 false)], nx := 1, n := 47, pin := [] }
noncomputable def m0 (N : Nat) (a0 : ByteArray) (lp5 : ByteArray × Int × Int × (List Int) → Option R) : Option R :=
  ob (spec_l01Hash.m N (bytesOf a0)) fun y1 =>
  lp5 (y1, (0:Int), (0:Int), ([] : List Int))
theorem run (N : Nat) (o0 : Orc E R) (a0 : ByteArray) : runF T (G N) live [] Try.f60 code (sp N) o0 (a0, ()) = m0 N a0 (fun a => o0 loop5 (K5 N o0) (St5 a0 a)) := by kernel_rfl
theorem body5_0 (N : Nat) (o0 : Orc E R) (o1 : Orc E R) (q1 : St E → Option R) (a0 : ByteArray) (v0 : ByteArray) (v1 : Int) (v2 : Int) (v3 : List Int) : runA T (G N) live [] o1 body5 (St5 a0 (v0, v1, v2, v3)) (kloop [3, 4, 5, 6] q1 (K5 N o0)) = step5 N a0 (fun a => o0 loop9 (K9 N o0) (St9 a0 a)) (fun a => q1 (St5 a0 a)) (v0, v1, v2, v3) := by kernel_rfl
theorem body9_0 (N : Nat) (o0 : Orc E R) (o1 : Orc E R) (q1 : St E → Option R) (a0 : ByteArray) (v0 : Int) (v1 : Int) (v2 : List Int) : runA T (G N) live [] o1 body9 (St9 a0 (v0, v1, v2)) (kloop [4, 5, 7] q1 (K9 N o0)) = step9 N a0 (fun a => q1 (St9 a0 a)) (v0, v1, v2) := by kernel_rfl
theorem lp9_eq (N : Nat) (a0 : ByteArray) (a : Int × Int × (List Int)) : (orc T (G N) live [] N 2) loop9 (K9 N (orc T (G N) live [] N 2)) (St9 a0 a) = lp9 N a0 a :=
  (orc_loop (b := body9) (live := [4, 5, 7]) (by kernel_rfl)).trans (iter_eq (St9 a0) _ _ (fun q1 a => by
    have hc := congrFun (congrFun (rfl : (step9 N a0) = (step9 N a0)) (fun a => q1 (St9 a0 a))) a
    obtain ⟨u0, u1, u2⟩ := a
    exact (body9_0 N (orc T (G N) live [] N 2) (orc T (G N) live [] N 1) q1 a0 u0 u1 u2).trans hc) N a)
theorem lp5_eq (N : Nat) (a0 : ByteArray) (a : ByteArray × Int × Int × (List Int)) : (orc T (G N) live [] N 2) loop5 (K5 N (orc T (G N) live [] N 2)) (St5 a0 a) = lp5 N a0 a :=
  (orc_loop (b := body5) (live := [3, 4, 5, 6]) (by kernel_rfl)).trans (iter_eq (St5 a0) _ _ (fun q1 a => by
    have hc := congrFun (congrFun (congrArg (step5 N a0) (funext fun a => lp9_eq N a0 a)) (fun a => q1 (St5 a0 a))) a
    obtain ⟨u0, u1, u2, u3⟩ := a
    exact (body5_0 N (orc T (G N) live [] N 2) (orc T (G N) live [] N 1) q1 a0 u0 u1 u2 u3).trans hc) N a)
theorem G_ok (N : Nat) : GamOK Try.prog (G N) := gam_ok (l := [(91, [], spec_l01Hash.sp N)]) (⟨spec_l01Hash.snd N, trivial⟩)
theorem snd (N : Nat) : Sound Try.prog E 60 (sp N) :=
  Mir.sound T_OK (G_ok N) mixed Try.func60 (c := code) (by kernel_rfl) (by kernel_rfl) (sp N) (Nat.le_of_ble_eq_true (by kernel_rfl)) live [] (by
    rintro ⟨a0, _⟩ r h
    exact ⟨N, 2, ((run N _ a0).trans (congrArg (m0 N a0) (funext fun a => lp5_eq N a0 a))).trans h⟩)
end spec_l08Digits
namespace spec_l08Chain
noncomputable def code : Code := Try.f51.body.getD .skip
abbrev live : Live := [(2, [0, 1, 2, 7])]
noncomputable def G (N : Nat) : Ctx E := gam [(91, [], spec_l01Hash.sp N)]
noncomputable def loop2 : Code := codeAt code [1, 0, 1, 0]
noncomputable def body2 : Code := codeAt loop2 [0]
noncomputable def K2 (N : Nat) (o0 : Orc E R) : KT E R := kAt T (G N) live [] o0 code [1, 0, 1, 0] (kfin T Try.f51 (sp N))
noncomputable def St2 (a0 : ByteArray) (a1 : Int) (a2 : Int) : (ByteArray × Int) → St E
  | (v0, v3) => { ρ := [(0, .c (.at (.str v0))), (1, .c (.at (.int .i64 a1))), (2, .c (.at (.int .i64 a2))), (7, .c (.at (.int .i64 v3)))], H := [], nx := 0, n := 22, pin := [] }
noncomputable def m0 (N : Nat) (a0 : ByteArray) (a1 : Int) (a2 : Int) (lp2 : ByteArray × Int → Option R) : Option R :=
  lp2 (a0, (0:Int))
theorem run (N : Nat) (o0 : Orc E R) (a0 : ByteArray) (a1 : Int) (a2 : Int) : runF T (G N) live [] Try.f51 code (sp N) o0 (a0, a1, a2, ()) = m0 N a0 a1 a2 (fun a => o0 loop2 (K2 N o0) (St2 a0 a1 a2 a)) := by kernel_rfl
theorem body2_0 (N : Nat) (o0 : Orc E R) (o1 : Orc E R) (q1 : St E → Option R) (a0 : ByteArray) (a1 : Int) (a2 : Int) (v0 : ByteArray) (v3 : Int) : runA T (G N) live [] o1 body2 (St2 a0 a1 a2 (v0, v3)) (kloop [0, 1, 2, 7] q1 (K2 N o0)) = step2 N a0 a1 a2 (fun a => q1 (St2 a0 a1 a2 a)) (v0, v3) := by kernel_rfl
theorem lp2_eq (N : Nat) (a0 : ByteArray) (a1 : Int) (a2 : Int) (a : ByteArray × Int) : (orc T (G N) live [] N 2) loop2 (K2 N (orc T (G N) live [] N 2)) (St2 a0 a1 a2 a) = lp2 N a0 a1 a2 a :=
  (orc_loop (b := body2) (live := [0, 1, 2, 7]) (by kernel_rfl)).trans (iter_eq (St2 a0 a1 a2) _ _ (fun q1 a => by
    have hc := congrFun (congrFun (rfl : (step2 N a0 a1 a2) = (step2 N a0 a1 a2)) (fun a => q1 (St2 a0 a1 a2 a))) a
    obtain ⟨u0, u1⟩ := a
    exact (body2_0 N (orc T (G N) live [] N 2) (orc T (G N) live [] N 1) q1 a0 a1 a2 u0 u1).trans hc) N a)
theorem G_ok (N : Nat) : GamOK Try.prog (G N) := gam_ok (l := [(91, [], spec_l01Hash.sp N)]) (⟨spec_l01Hash.snd N, trivial⟩)
theorem snd (N : Nat) : Sound Try.prog E 51 (sp N) :=
  Mir.sound T_OK (G_ok N) mixed Try.func51 (c := code) (by kernel_rfl) (by kernel_rfl) (sp N) (Nat.le_of_ble_eq_true (by kernel_rfl)) live [] (by
    rintro ⟨a0, a1, a2, _⟩ r h
    exact ⟨N, 2, ((run N _ a0 a1 a2).trans (congrArg (m0 N a0 a1 a2) (funext fun a => lp2_eq N a0 a1 a2 a))).trans h⟩)
end spec_l08Chain
namespace spec_l08Ends
noncomputable def code : Code := Try.f97.body.getD .skip
abbrev live : Live := [(3, [0, 3, 4])]
noncomputable def G (N : Nat) : Ctx E := gam [(91, [], spec_l01Hash.sp N)]
noncomputable def loop3 : Code := codeAt code [1, 1, 0, 1, 0]
noncomputable def body3 : Code := codeAt loop3 [0]
noncomputable def K3 (N : Nat) (o0 : Orc E R) : KT E R := kAt T (G N) live [] o0 code [1, 1, 0, 1, 0] (kfin T Try.f97 (sp N))
noncomputable def St3 (a0 : List ByteArray) : (Int × (List Int)) → St E
  | (v1, v2) => { ρ := [(0, .c (.at (.ro 9 .str a0))), (3, .c (.at (.own 0))), (4, .c (.at (.int .i64 v1)))], H := [(0, .row 5 (.int .u8) v2 false)], nx := 1, n := 20, pin := [] }
noncomputable def m0 (N : Nat) (a0 : List ByteArray) (lp3 : Int × (List Int) → Option R) : Option R :=
  lp3 ((0:Int), [(5:Int)])
theorem run (N : Nat) (o0 : Orc E R) (a0 : List ByteArray) : runF T (G N) live [] Try.f97 code (sp N) o0 (a0, ()) = m0 N a0 (fun a => o0 loop3 (K3 N o0) (St3 a0 a)) := by kernel_rfl
theorem body3_0 (N : Nat) (o0 : Orc E R) (o1 : Orc E R) (q1 : St E → Option R) (a0 : List ByteArray) (v1 : Int) (v2 : List Int) : runA T (G N) live [] o1 body3 (St3 a0 (v1, v2)) (kloop [0, 3, 4] q1 (K3 N o0)) = step3 N a0 (fun a => q1 (St3 a0 a)) (v1, v2) := by kernel_rfl
theorem lp3_eq (N : Nat) (a0 : List ByteArray) (a : Int × (List Int)) : (orc T (G N) live [] N 2) loop3 (K3 N (orc T (G N) live [] N 2)) (St3 a0 a) = lp3 N a0 a :=
  (orc_loop (b := body3) (live := [0, 3, 4]) (by kernel_rfl)).trans (iter_eq (St3 a0) _ _ (fun q1 a => by
    have hc := congrFun (congrFun (rfl : (step3 N a0) = (step3 N a0)) (fun a => q1 (St3 a0 a))) a
    obtain ⟨u0, u1⟩ := a
    exact (body3_0 N (orc T (G N) live [] N 2) (orc T (G N) live [] N 1) q1 a0 u0 u1).trans hc) N a)
theorem G_ok (N : Nat) : GamOK Try.prog (G N) := gam_ok (l := [(91, [], spec_l01Hash.sp N)]) (⟨spec_l01Hash.snd N, trivial⟩)
theorem snd (N : Nat) : Sound Try.prog E 97 (sp N) :=
  Mir.sound T_OK (G_ok N) mixed Try.func97 (c := code) (by kernel_rfl) (by kernel_rfl) (sp N) (Nat.le_of_ble_eq_true (by kernel_rfl)) live [] (by
    rintro ⟨a0, _⟩ r h
    exact ⟨N, 2, ((run N _ a0).trans (congrArg (m0 N a0) (funext fun a => lp3_eq N a0 a))).trans h⟩)
end spec_l08Ends
namespace spec_l06Half
noncomputable def code : Code := Try.f99.body.getD .skip
abbrev live : Live := [(2, [0, 3])]
noncomputable def G (N : Nat) : Ctx E := gam []
noncomputable def loop2 : Code := codeAt code [1, 1, 0, 0]
noncomputable def body2 : Code := codeAt loop2 [0]
noncomputable def K2 (N : Nat) (o0 : Orc E R) : KT E R := kAt T (G N) live [] o0 code [1, 1, 0, 0] (kfin T Try.f99 (sp N))
noncomputable def St2 (a0 : Int) : Int → St E
  | v1 => { ρ := [(0, .c (.at (.int .i64 a0))), (3, .c (.at (.int .i64 v1)))], H := [], nx := 0, n := 11, pin := [] }
noncomputable def m0 (N : Nat) (a0 : Int) (lp2 : Int → Option R) : Option R :=
  lp2 (1:Int)
theorem run (N : Nat) (o0 : Orc E R) (a0 : Int) : runF T (G N) live [] Try.f99 code (sp N) o0 (a0, ()) = m0 N a0 (fun a => o0 loop2 (K2 N o0) (St2 a0 a)) := by kernel_rfl
theorem body2_0 (N : Nat) (o0 : Orc E R) (o1 : Orc E R) (q1 : St E → Option R) (a0 : Int) (v1 : Int) : runA T (G N) live [] o1 body2 (St2 a0 v1) (kloop [0, 3] q1 (K2 N o0)) = step2 N a0 (fun a => q1 (St2 a0 a)) v1 := by kernel_rfl
theorem lp2_eq (N : Nat) (a0 : Int) (a : Int) : (orc T (G N) live [] N 2) loop2 (K2 N (orc T (G N) live [] N 2)) (St2 a0 a) = lp2 N a0 a :=
  (orc_loop (b := body2) (live := [0, 3]) (by kernel_rfl)).trans (iter_eq (St2 a0) _ _ (fun q1 a => by
    have hc := congrFun (congrFun (rfl : (step2 N a0) = (step2 N a0)) (fun a => q1 (St2 a0 a))) a
    exact (body2_0 N (orc T (G N) live [] N 2) (orc T (G N) live [] N 1) q1 a0 a).trans hc) N a)
theorem G_ok (N : Nat) : GamOK Try.prog (G N) := gam_ok (l := []) (trivial)
theorem snd (N : Nat) : Sound Try.prog E 99 (sp N) :=
  Mir.sound T_OK (G_ok N) mixed Try.func99 (c := code) (by kernel_rfl) (by kernel_rfl) (sp N) (Nat.le_of_ble_eq_true (by kernel_rfl)) live [] (by
    rintro ⟨a0, _⟩ r h
    exact ⟨N, 2, ((run N _ a0).trans (congrArg (m0 N a0) (funext fun a => lp2_eq N a0 a))).trans h⟩)
end spec_l06Half
namespace spec_l06Node
noncomputable def code : Code := Try.f100.body.getD .skip
abbrev live : Live := []
noncomputable def G (N : Nat) : Ctx E := gam [(91, [], spec_l01Hash.sp N)]
noncomputable def m0 (N : Nat) (a0 : ByteArray) (a1 : ByteArray) : Option R :=
  bif (room (([(1:Int)]).length + (bytesOf a0).length) 1) then
  bif (room (([(1:Int)] ++ (bytesOf a0)).length + (bytesOf a1).length) 1) then
  ob (spec_l01Hash.m N (([(1:Int)] ++ (bytesOf a0)) ++ (bytesOf a1))) fun y1 =>
  some y1
  else none
  else none
theorem run (N : Nat) (o0 : Orc E R) (a0 : ByteArray) (a1 : ByteArray) : runF T (G N) live [] Try.f100 code (sp N) o0 (a0, a1, ()) = m0 N a0 a1 := by kernel_rfl
theorem G_ok (N : Nat) : GamOK Try.prog (G N) := gam_ok (l := [(91, [], spec_l01Hash.sp N)]) (⟨spec_l01Hash.snd N, trivial⟩)
theorem snd (N : Nat) : Sound Try.prog E 100 (sp N) :=
  Mir.sound T_OK (G_ok N) mixed Try.func100 (c := code) (by kernel_rfl) (by kernel_rfl) (sp N) (Nat.le_of_ble_eq_true (by kernel_rfl)) live [] (by
    rintro ⟨a0, a1, _⟩ r h
    exact ⟨N, 2, ((run N _ a0 a1).trans rfl).trans h⟩)
end spec_l06Node
namespace spec_l06Up
noncomputable def code : Code := Try.f107.body.getD .skip
abbrev live : Live := []
noncomputable def G (N : Nat) (slf : ByteArray → Int → Int → (List ByteArray) → Option R) : Ctx E := gam [(99, [], spec_l06Half.sp N), (107, [], spf slf), (100, [], spec_l06Node.sp N)]
noncomputable def m0 (N : Nat) (slf : ByteArray → Int → Int → (List ByteArray) → Option R) (a0 : ByteArray) (a1 : Int) (a2 : Int) (a3 : List ByteArray) : Option R :=
  bif (a2 == (1:Int)) then
    some (a0, ((a3.length : Int) == (0:Int)))
  else
  bif ((a3.length : Int) == (0:Int)) then
    some (ByteArray.empty, false)
  else
  ob (spec_l06Half.m N a2) fun y1 =>
  bif (decide (0 ≤ (w64 ((a3.length : Int) - (1:Int))))) then
  bif (decide ((w64 ((a3.length : Int) - (1:Int))) < (a3.length : Int))) then
  bif (decide (0 ≤ (w64 ((a3.length : Int) - (1:Int))))) then
  bif (decide ((w64 ((a3.length : Int) - (1:Int))) ≤ ((a3.length : Nat) : Int))) then
  bif (decide (a1 < y1)) then
    ob (slf a0 a1 y1 (a3.take (Int.toNat (w64 ((a3.length : Int) - (1:Int)))))) fun y2 =>
    ob (spec_l06Node.m N y2.1 (a3.getD (Int.toNat (w64 ((a3.length : Int) - (1:Int)))) ByteArray.empty)) fun y3 =>
    some (y3, y2.2)
  else
  ob (slf a0 (w64 (a1 - y1)) (w64 (a2 - y1)) (a3.take (Int.toNat (w64 ((a3.length : Int) - (1:Int)))))) fun y4 =>
  ob (spec_l06Node.m N (a3.getD (Int.toNat (w64 ((a3.length : Int) - (1:Int)))) ByteArray.empty) y4.1) fun y5 =>
  some (y5, y4.2)
  else none
  else none
  else none
  else none
theorem run (N : Nat) (o0 : Orc E R) (slf : ByteArray → Int → Int → (List ByteArray) → Option R) (a0 : ByteArray) (a1 : Int) (a2 : Int) (a3 : List ByteArray) : runF T (G N slf) live [] Try.f107 code (spf (mb N slf)) o0 (a0, a1, a2, a3, ()) = m0 N slf a0 a1 a2 a3 := by kernel_rfl
theorem G_ok (N : Nat) (slf : ByteArray → Int → Int → (List ByteArray) → Option R) (hs : Sound Try.prog E 107 (spf slf)) : GamOK Try.prog (G N slf) := gam_ok (l := [(99, [], spec_l06Half.sp N), (107, [], spf slf), (100, [], spec_l06Node.sp N)]) (⟨spec_l06Half.snd N, hs, spec_l06Node.snd N, trivial⟩)
theorem sndF (N : Nat) : ∀ n, Sound Try.prog E 107 (spf (mF N n))
  | 0 => sound_none Try.func107 (c := code) (by kernel_rfl) (by kernel_rfl) (spf (mF N 0)) (fun _ => rfl)
  | n + 1 => by
    have hr := fun (a0 : ByteArray) (a1 : Int) (a2 : Int) (a3 : List ByteArray) => (run N (orc T (G N (mF N n)) live [] N 2) (mF N n) a0 a1 a2 a3).trans rfl
    exact Mir.sound T_OK (G_ok N (mF N n) (sndF N n)) mixed Try.func107 (c := code) (by kernel_rfl) (by kernel_rfl) (spf (mF N (n + 1))) (Nat.le_of_ble_eq_true (by kernel_rfl)) live [] (by
      rintro ⟨a0, a1, a2, a3, _⟩ r h
      exact ⟨N, 2, (hr a0 a1 a2 a3).trans h⟩)
theorem snd (N : Nat) : Sound Try.prog E 107 (sp N) := sndF N N
end spec_l06Up
namespace spec_l08Root
noncomputable def code : Code := Try.f78.body.getD .skip
abbrev live : Live := [(4, [3, 6, 7, 8])]
noncomputable def G (N : Nat) : Ctx E := gam [(60, [], spec_l08Digits.sp N), (51, [], spec_l08Chain.sp N), (97, [], spec_l08Ends.sp N), (107, [], spec_l06Up.sp N)]
noncomputable def loop4 : Code := codeAt code [1, 1, 1, 0, 1, 0]
noncomputable def body4 : Code := codeAt loop4 [0]
noncomputable def K4 (N : Nat) (o0 : Orc E R) : KT E R := kAt T (G N) live [] o0 code [1, 1, 1, 0, 1, 0] (kfin T Try.f78 (sp N))
noncomputable def St4 (a0 : ByteArray) (a1 : Signature) : (Int × (List ByteArray) × (List Int)) → St E
  | (v0, v4, v5) => { ρ := [(3, .c (.at (.ptr 0 0))), (6, .c (.at (.own 1))), (7, .c (.at (.own 2))), (8, .c (.at (.int .i64 v0)))], H := [(0, .box 44 [.int .i64 a1.Index, .ro 9 .str a1.Parts, .ro 9 .str a1.Path]), (1, .row 9 .str v4 false), (2, .row 3 (.int .i64) v5 false)], nx := 3, n := 43, pin := [] }
noncomputable def m0 (N : Nat) (a0 : ByteArray) (a1 : Signature) (lp4 : Int × (List ByteArray) × (List Int) → Option R) : Option R :=
  ob (spec_l08Digits.m N a0) fun y1 =>
  lp4 ((0:Int), ([] : List ByteArray), y1)
theorem run (N : Nat) (o0 : Orc E R) (a0 : ByteArray) (a1 : Signature) : runF T (G N) live [] Try.f78 code (sp N) o0 (a0, a1, ()) = m0 N a0 a1 (fun a => o0 loop4 (K4 N o0) (St4 a0 a1 a)) := by kernel_rfl
theorem body4_0 (N : Nat) (o0 : Orc E R) (o1 : Orc E R) (q1 : St E → Option R) (a0 : ByteArray) (a1 : Signature) (v0 : Int) (v4 : List ByteArray) (v5 : List Int) : runA T (G N) live [] o1 body4 (St4 a0 a1 (v0, v4, v5)) (kloop [3, 6, 7, 8] q1 (K4 N o0)) = step4 N a0 a1 (fun a => q1 (St4 a0 a1 a)) (v0, v4, v5) := by kernel_rfl
theorem lp4_eq (N : Nat) (a0 : ByteArray) (a1 : Signature) (a : Int × (List ByteArray) × (List Int)) : (orc T (G N) live [] N 2) loop4 (K4 N (orc T (G N) live [] N 2)) (St4 a0 a1 a) = lp4 N a0 a1 a :=
  (orc_loop (b := body4) (live := [3, 6, 7, 8]) (by kernel_rfl)).trans (iter_eq (St4 a0 a1) _ _ (fun q1 a => by
    have hc := congrFun (congrFun (rfl : (step4 N a0 a1) = (step4 N a0 a1)) (fun a => q1 (St4 a0 a1 a))) a
    obtain ⟨u0, u1, u2⟩ := a
    exact (body4_0 N (orc T (G N) live [] N 2) (orc T (G N) live [] N 1) q1 a0 a1 u0 u1 u2).trans hc) N a)
theorem G_ok (N : Nat) : GamOK Try.prog (G N) := gam_ok (l := [(60, [], spec_l08Digits.sp N), (51, [], spec_l08Chain.sp N), (97, [], spec_l08Ends.sp N), (107, [], spec_l06Up.sp N)]) (⟨spec_l08Digits.snd N, spec_l08Chain.snd N, spec_l08Ends.snd N, spec_l06Up.snd N, trivial⟩)
theorem snd (N : Nat) : Sound Try.prog E 78 (sp N) :=
  Mir.sound T_OK (G_ok N) mixed Try.func78 (c := code) (by kernel_rfl) (by kernel_rfl) (sp N) (Nat.le_of_ble_eq_true (by kernel_rfl)) live [] (by
    rintro ⟨a0, a1, _⟩ r h
    exact ⟨N, 2, ((run N _ a0 a1).trans (congrArg (m0 N a0 a1) (funext fun a => lp4_eq N a0 a1 a))).trans h⟩)
end spec_l08Root
namespace spec_VerifySignature
noncomputable def code : Code := Try.f36.body.getD .skip
abbrev live : Live := []
noncomputable def G (N : Nat) : Ctx E := gam [(77, [], spec_l06Hashes.sp N), (56, [], spec_l08Index.sp N), (78, [], spec_l08Root.sp N)]
noncomputable def m0 (N : Nat) (a0 : ByteArray) (a1 : ByteArray) (a2 : Signature) : Option R :=
  bif (decide ((a0.size : Int) > (65536:Int))) then
    some (2:Int)
  else
  bif (decide ((a1.size : Int) > (65536:Int))) then
    some (2:Int)
  else
  bif (bif false then true else (decide ((a2.Parts.length : Int) > (4096:Int)))) then
    some (2:Int)
  else
  bif (bif false then true else (decide ((a2.Path.length : Int) > (4096:Int)))) then
    some (2:Int)
  else
  bif ((a0.size : Int) != (32:Int)) then
    some (1:Int)
  else
  ob (spec_l06Hashes.m N a2.Parts) fun y1 =>
  bif (bif false then true else (!y1)) then
    some (1:Int)
  else
  ob (spec_l06Hashes.m N a2.Path) fun y2 =>
  bif (bif false then true else (!y2)) then
    some (1:Int)
  else
  ob (spec_l08Index.m N a2.Index) fun y3 =>
  bif (!y3) then
    some (4:Int)
  else
  bif (bif false then true else ((a2.Parts.length : Int) != (18:Int))) then
    some (4:Int)
  else
  ob (spec_l08Root.m N a1 a2) fun y4 =>
  bif (!y4.2) then
    some (10:Int)
  else
  bif (!seq y4.1 a0) then
    some (12:Int)
  else
  some (0:Int)
theorem run (N : Nat) (o0 : Orc E R) (a0 : ByteArray) (a1 : ByteArray) (a2 : Signature) : runF T (G N) live [] Try.f36 code (sp N) o0 (a0, a1, a2, ()) = m0 N a0 a1 a2 := by kernel_rfl
theorem G_ok (N : Nat) : GamOK Try.prog (G N) := gam_ok (l := [(77, [], spec_l06Hashes.sp N), (56, [], spec_l08Index.sp N), (78, [], spec_l08Root.sp N)]) (⟨spec_l06Hashes.snd N, spec_l08Index.snd N, spec_l08Root.snd N, trivial⟩)
theorem snd (N : Nat) : Sound Try.prog E 36 (sp N) :=
  Mir.sound T_OK (G_ok N) mixed Try.func36 (c := code) (by kernel_rfl) (by kernel_rfl) (sp N) (Nat.le_of_ble_eq_true (by kernel_rfl)) live [] (by
    rintro ⟨a0, a1, a2, _⟩ r h
    exact ⟨N, 2, ((run N _ a0 a1 a2).trans rfl).trans h⟩)
end spec_VerifySignature
namespace impl_isText_1
noncomputable def code : Code := Try.f93.body.getD .skip
abbrev live : Live := []
noncomputable def G (N : Nat) : Ctx E := gam []
noncomputable def m0 (N : Nat) (a0 : ByteArray) : Option R :=
  some (decide ((a0.size : Int) > (65536:Int)))
theorem run (N : Nat) (o0 : Orc E R) (a0 : ByteArray) : runF T (G N) live [] Try.f93 code (sp N) o0 (a0, ()) = m0 N a0 := by kernel_rfl
theorem G_ok (N : Nat) : GamOK Try.prog (G N) := gam_ok (l := []) (trivial)
theorem snd (N : Nat) : Sound Try.prog E 93 (sp N) :=
  Mir.sound T_OK (G_ok N) mixed Try.func93 (c := code) (by kernel_rfl) (by kernel_rfl) (sp N) (Nat.le_of_ble_eq_true (by kernel_rfl)) live [] (by
    rintro ⟨a0, _⟩ r h
    exact ⟨N, 2, ((run N _ a0).trans rfl).trans h⟩)
end impl_isText_1
namespace slices_IndexFunc_string_string__impl_isText_1
noncomputable def code : Code := Try.f112.body.getD .skip
abbrev live : Live := [(2, [0, 1, 7, 8])]
noncomputable def G (N : Nat) : Ctx E := gam [(93, [], impl_isText_1.sp N)]
noncomputable def loop2 : Code := codeAt code [1, 0, 1, 0]
noncomputable def body2 : Code := codeAt loop2 [0]
noncomputable def K2 (N : Nat) (o0 : Orc E R) : KT E R := kAt T (G N) live [] o0 code [1, 0, 1, 0] (kfin T Try.f112 (sp N))
noncomputable def St2 (a0 : List ByteArray) : (Int × Int) → St E
  | (v1, v2) => { ρ := [(0, .c (.at (.ro 9 .str a0))), (1, .clo 93 []), (7, .c (.at (.int .i64 v1))), (8, .c (.at (.int .i64 v2)))], H := [], nx := 0, n := 19, pin := [] }
noncomputable def m0 (N : Nat) (a0 : List ByteArray) (lp2 : Int × Int → Option R) : Option R :=
  lp2 ((a0.length : Int), (0:Int))
theorem run (N : Nat) (o0 : Orc E R) (a0 : List ByteArray) : runF T (G N) live [] Try.f112 code (sp N) o0 (a0, (), ()) = m0 N a0 (fun a => o0 loop2 (K2 N o0) (St2 a0 a)) := by kernel_rfl
theorem body2_0 (N : Nat) (o0 : Orc E R) (o1 : Orc E R) (q1 : St E → Option R) (a0 : List ByteArray) (v1 : Int) (v2 : Int) : runA T (G N) live [] o1 body2 (St2 a0 (v1, v2)) (kloop [0, 1, 7, 8] q1 (K2 N o0)) = step2 N a0 (fun a => q1 (St2 a0 a)) (v1, v2) := by kernel_rfl
theorem lp2_eq (N : Nat) (a0 : List ByteArray) (a : Int × Int) : (orc T (G N) live [] N 2) loop2 (K2 N (orc T (G N) live [] N 2)) (St2 a0 a) = lp2 N a0 a :=
  (orc_loop (b := body2) (live := [0, 1, 7, 8]) (by kernel_rfl)).trans (iter_eq (St2 a0) _ _ (fun q1 a => by
    have hc := congrFun (congrFun (rfl : (step2 N a0) = (step2 N a0)) (fun a => q1 (St2 a0 a))) a
    obtain ⟨u0, u1⟩ := a
    exact (body2_0 N (orc T (G N) live [] N 2) (orc T (G N) live [] N 1) q1 a0 u0 u1).trans hc) N a)
theorem G_ok (N : Nat) : GamOK Try.prog (G N) := gam_ok (l := [(93, [], impl_isText_1.sp N)]) (⟨impl_isText_1.snd N, trivial⟩)
theorem snd (N : Nat) : Sound Try.prog E 112 (sp N) :=
  Mir.sound T_OK (G_ok N) mixed Try.func112 (c := code) (by kernel_rfl) (by kernel_rfl) (sp N) (Nat.le_of_ble_eq_true (by kernel_rfl)) live [] (by
    rintro ⟨a0, _, _⟩ r h
    exact ⟨N, 2, ((run N _ a0).trans (congrArg (m0 N a0) (funext fun a => lp2_eq N a0 a))).trans h⟩)
end slices_IndexFunc_string_string__impl_isText_1
namespace slices_ContainsFunc_string_string__impl_isText_1
noncomputable def code : Code := Try.f92.body.getD .skip
abbrev live : Live := []
noncomputable def G (N : Nat) : Ctx E := gam [(112, [93], slices_IndexFunc_string_string__impl_isText_1.sp N)]
noncomputable def m0 (N : Nat) (a0 : List ByteArray) : Option R :=
  ob (slices_IndexFunc_string_string__impl_isText_1.m N a0) fun y1 =>
  some (decide (y1 ≥ (0:Int)))
theorem run (N : Nat) (o0 : Orc E R) (a0 : List ByteArray) : runF T (G N) live [] Try.f92 code (sp N) o0 (a0, (), ()) = m0 N a0 := by kernel_rfl
theorem G_ok (N : Nat) : GamOK Try.prog (G N) := gam_ok (l := [(112, [93], slices_IndexFunc_string_string__impl_isText_1.sp N)]) (⟨slices_IndexFunc_string_string__impl_isText_1.snd N, trivial⟩)
theorem snd (N : Nat) : Sound Try.prog E 92 (sp N) :=
  Mir.sound T_OK (G_ok N) mixed Try.func92 (c := code) (by kernel_rfl) (by kernel_rfl) (sp N) (Nat.le_of_ble_eq_true (by kernel_rfl)) live [] (by
    rintro ⟨a0, _, _⟩ r h
    exact ⟨N, 2, ((run N _ a0).trans rfl).trans h⟩)
end slices_ContainsFunc_string_string__impl_isText_1
namespace impl_isText
noncomputable def code : Code := Try.f52.body.getD .skip
abbrev live : Live := []
noncomputable def G (N : Nat) : Ctx E := gam [(92, [93], slices_ContainsFunc_string_string__impl_isText_1.sp N)]
noncomputable def m0 (N : Nat) (a0 : List ByteArray) : Option R :=
  ob (slices_ContainsFunc_string_string__impl_isText_1.m N a0) fun y1 =>
  some (!y1)
theorem run (N : Nat) (o0 : Orc E R) (a0 : List ByteArray) : runF T (G N) live [] Try.f52 code (sp N) o0 (a0, ()) = m0 N a0 := by kernel_rfl
theorem G_ok (N : Nat) : GamOK Try.prog (G N) := gam_ok (l := [(92, [93], slices_ContainsFunc_string_string__impl_isText_1.sp N)]) (⟨slices_ContainsFunc_string_string__impl_isText_1.snd N, trivial⟩)
theorem snd (N : Nat) : Sound Try.prog E 52 (sp N) :=
  Mir.sound T_OK (G_ok N) mixed Try.func52 (c := code) (by kernel_rfl) (by kernel_rfl) (sp N) (Nat.le_of_ble_eq_true (by kernel_rfl)) live [] (by
    rintro ⟨a0, _⟩ r h
    exact ⟨N, 2, ((run N _ a0).trans rfl).trans h⟩)
end impl_isText
namespace impl_isList_string
noncomputable def code : Code := Try.f80.body.getD .skip
abbrev live : Live := []
noncomputable def G (N : Nat) : Ctx E := gam []
noncomputable def m0 (N : Nat) (a0 : List ByteArray) : Option R :=
  some (decide ((a0.length : Int) ≤ (4096:Int)))
theorem run (N : Nat) (o0 : Orc E R) (a0 : List ByteArray) : runF T (G N) live [] Try.f80 code (sp N) o0 (a0, ()) = m0 N a0 := by kernel_rfl
theorem G_ok (N : Nat) : GamOK Try.prog (G N) := gam_ok (l := []) (trivial)
theorem snd (N : Nat) : Sound Try.prog E 80 (sp N) :=
  Mir.sound T_OK (G_ok N) mixed Try.func80 (c := code) (by kernel_rfl) (by kernel_rfl) (sp N) (Nat.le_of_ble_eq_true (by kernel_rfl)) live [] (by
    rintro ⟨a0, _⟩ r h
    exact ⟨N, 2, ((run N _ a0).trans rfl).trans h⟩)
end impl_isList_string
namespace impl_isHash_1
noncomputable def code : Code := Try.f94.body.getD .skip
abbrev live : Live := []
noncomputable def G (N : Nat) : Ctx E := gam []
noncomputable def m0 (N : Nat) (a0 : ByteArray) : Option R :=
  some ((a0.size : Int) != (32:Int))
theorem run (N : Nat) (o0 : Orc E R) (a0 : ByteArray) : runF T (G N) live [] Try.f94 code (sp N) o0 (a0, ()) = m0 N a0 := by kernel_rfl
theorem G_ok (N : Nat) : GamOK Try.prog (G N) := gam_ok (l := []) (trivial)
theorem snd (N : Nat) : Sound Try.prog E 94 (sp N) :=
  Mir.sound T_OK (G_ok N) mixed Try.func94 (c := code) (by kernel_rfl) (by kernel_rfl) (sp N) (Nat.le_of_ble_eq_true (by kernel_rfl)) live [] (by
    rintro ⟨a0, _⟩ r h
    exact ⟨N, 2, ((run N _ a0).trans rfl).trans h⟩)
end impl_isHash_1
namespace slices_IndexFunc_string_string__impl_isHash_1
noncomputable def code : Code := Try.f112.body.getD .skip
abbrev live : Live := [(2, [0, 1, 7, 8])]
noncomputable def G (N : Nat) : Ctx E := gam [(94, [], impl_isHash_1.sp N)]
noncomputable def loop2 : Code := codeAt code [1, 0, 1, 0]
noncomputable def body2 : Code := codeAt loop2 [0]
noncomputable def K2 (N : Nat) (o0 : Orc E R) : KT E R := kAt T (G N) live [] o0 code [1, 0, 1, 0] (kfin T Try.f112 (sp N))
noncomputable def St2 (a0 : List ByteArray) : (Int × Int) → St E
  | (v1, v2) => { ρ := [(0, .c (.at (.ro 9 .str a0))), (1, .clo 94 []), (7, .c (.at (.int .i64 v1))), (8, .c (.at (.int .i64 v2)))], H := [], nx := 0, n := 19, pin := [] }
noncomputable def m0 (N : Nat) (a0 : List ByteArray) (lp2 : Int × Int → Option R) : Option R :=
  lp2 ((a0.length : Int), (0:Int))
theorem run (N : Nat) (o0 : Orc E R) (a0 : List ByteArray) : runF T (G N) live [] Try.f112 code (sp N) o0 (a0, (), ()) = m0 N a0 (fun a => o0 loop2 (K2 N o0) (St2 a0 a)) := by kernel_rfl
theorem body2_0 (N : Nat) (o0 : Orc E R) (o1 : Orc E R) (q1 : St E → Option R) (a0 : List ByteArray) (v1 : Int) (v2 : Int) : runA T (G N) live [] o1 body2 (St2 a0 (v1, v2)) (kloop [0, 1, 7, 8] q1 (K2 N o0)) = step2 N a0 (fun a => q1 (St2 a0 a)) (v1, v2) := by kernel_rfl
theorem lp2_eq (N : Nat) (a0 : List ByteArray) (a : Int × Int) : (orc T (G N) live [] N 2) loop2 (K2 N (orc T (G N) live [] N 2)) (St2 a0 a) = lp2 N a0 a :=
  (orc_loop (b := body2) (live := [0, 1, 7, 8]) (by kernel_rfl)).trans (iter_eq (St2 a0) _ _ (fun q1 a => by
    have hc := congrFun (congrFun (rfl : (step2 N a0) = (step2 N a0)) (fun a => q1 (St2 a0 a))) a
    obtain ⟨u0, u1⟩ := a
    exact (body2_0 N (orc T (G N) live [] N 2) (orc T (G N) live [] N 1) q1 a0 u0 u1).trans hc) N a)
theorem G_ok (N : Nat) : GamOK Try.prog (G N) := gam_ok (l := [(94, [], impl_isHash_1.sp N)]) (⟨impl_isHash_1.snd N, trivial⟩)
theorem snd (N : Nat) : Sound Try.prog E 112 (sp N) :=
  Mir.sound T_OK (G_ok N) mixed Try.func112 (c := code) (by kernel_rfl) (by kernel_rfl) (sp N) (Nat.le_of_ble_eq_true (by kernel_rfl)) live [] (by
    rintro ⟨a0, _, _⟩ r h
    exact ⟨N, 2, ((run N _ a0).trans (congrArg (m0 N a0) (funext fun a => lp2_eq N a0 a))).trans h⟩)
end slices_IndexFunc_string_string__impl_isHash_1
namespace slices_ContainsFunc_string_string__impl_isHash_1
noncomputable def code : Code := Try.f92.body.getD .skip
abbrev live : Live := []
noncomputable def G (N : Nat) : Ctx E := gam [(112, [94], slices_IndexFunc_string_string__impl_isHash_1.sp N)]
noncomputable def m0 (N : Nat) (a0 : List ByteArray) : Option R :=
  ob (slices_IndexFunc_string_string__impl_isHash_1.m N a0) fun y1 =>
  some (decide (y1 ≥ (0:Int)))
theorem run (N : Nat) (o0 : Orc E R) (a0 : List ByteArray) : runF T (G N) live [] Try.f92 code (sp N) o0 (a0, (), ()) = m0 N a0 := by kernel_rfl
theorem G_ok (N : Nat) : GamOK Try.prog (G N) := gam_ok (l := [(112, [94], slices_IndexFunc_string_string__impl_isHash_1.sp N)]) (⟨slices_IndexFunc_string_string__impl_isHash_1.snd N, trivial⟩)
theorem snd (N : Nat) : Sound Try.prog E 92 (sp N) :=
  Mir.sound T_OK (G_ok N) mixed Try.func92 (c := code) (by kernel_rfl) (by kernel_rfl) (sp N) (Nat.le_of_ble_eq_true (by kernel_rfl)) live [] (by
    rintro ⟨a0, _, _⟩ r h
    exact ⟨N, 2, ((run N _ a0).trans rfl).trans h⟩)
end slices_ContainsFunc_string_string__impl_isHash_1
namespace impl_isHash
noncomputable def code : Code := Try.f53.body.getD .skip
abbrev live : Live := []
noncomputable def G (N : Nat) : Ctx E := gam [(92, [94], slices_ContainsFunc_string_string__impl_isHash_1.sp N)]
noncomputable def m0 (N : Nat) (a0 : List ByteArray) : Option R :=
  ob (slices_ContainsFunc_string_string__impl_isHash_1.m N a0) fun y1 =>
  some (!y1)
theorem run (N : Nat) (o0 : Orc E R) (a0 : List ByteArray) : runF T (G N) live [] Try.f53 code (sp N) o0 (a0, ()) = m0 N a0 := by kernel_rfl
theorem G_ok (N : Nat) : GamOK Try.prog (G N) := gam_ok (l := [(92, [94], slices_ContainsFunc_string_string__impl_isHash_1.sp N)]) (⟨slices_ContainsFunc_string_string__impl_isHash_1.snd N, trivial⟩)
theorem snd (N : Nat) : Sound Try.prog E 53 (sp N) :=
  Mir.sound T_OK (G_ok N) mixed Try.func53 (c := code) (by kernel_rfl) (by kernel_rfl) (sp N) (Nat.le_of_ble_eq_true (by kernel_rfl)) live [] (by
    rintro ⟨a0, _⟩ r h
    exact ⟨N, 2, ((run N _ a0).trans rfl).trans h⟩)
end impl_isHash
namespace impl_within
noncomputable def code : Code := Try.f54.body.getD .skip
abbrev live : Live := []
noncomputable def G (N : Nat) : Ctx E := gam []
noncomputable def m0 (N : Nat) (a0 : Int) (a1 : Int) (a2 : Int) : Option R :=
  bif (decide (a0 ≥ a1)) then
    some (bif true then (decide (a0 ≤ a2)) else false)
  else
  some false
theorem run (N : Nat) (o0 : Orc E R) (a0 : Int) (a1 : Int) (a2 : Int) : runF T (G N) live [] Try.f54 code (sp N) o0 (a0, a1, a2, ()) = m0 N a0 a1 a2 := by kernel_rfl
theorem G_ok (N : Nat) : GamOK Try.prog (G N) := gam_ok (l := []) (trivial)
theorem snd (N : Nat) : Sound Try.prog E 54 (sp N) :=
  Mir.sound T_OK (G_ok N) mixed Try.func54 (c := code) (by kernel_rfl) (by kernel_rfl) (sp N) (Nat.le_of_ble_eq_true (by kernel_rfl)) live [] (by
    rintro ⟨a0, a1, a2, _⟩ r h
    exact ⟨N, 2, ((run N _ a0 a1 a2).trans rfl).trans h⟩)
end impl_within
end Mir.Y
