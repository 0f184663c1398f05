/- The models are what the functions do. -/
import Derived.Test.YtohcahijaoemjaaFP1
namespace Mir.Y
set_option linter.unusedVariables false
set_option maxRecDepth 10000
open Go Go.Proofs Mir
namespace spec_l08Digits
noncomputable def code : Code := Try.f60.body.getD .skip
abbrev live : Live := [(9, [4, 5, 7]), (5, [3, 4, 5, 6])]
noncomputable def G (N : Nat) : Ctx E := gam [(91, [], spec_l01Hash.sp N)]
noncomputable def loop5 : Code := codeAt code [1, 1, 1, 1, 0, 1, 0]
noncomputable def body5 : Code := codeAt loop5 [0]
noncomputable def loop9 : Code := codeAt code [1, 1, 1, 1, 1, 0, 1, 0]
noncomputable def body9 : Code := codeAt loop9 [0]
noncomputable def K5 (N : Nat) (o0 : Orc E R) : KT E R := kAt T (G N) live [] o0 code [1, 1, 1, 1, 0, 1, 0] (kfin T Try.f60 (sp N))
noncomputable def St5 (a0 : ByteArray) : (ByteArray × Int × Int × (List Int)) → St E
  | (v0, v1, v2, v3) => { ρ := [(3, .c (.at (.str v0))), (4, .c (.at (.own 0))), (5, .c (.at (.int .i64 v1))), (6, .c (.at (.int .i64 v2)))], H := [(0, .row 3 (.int .i64) v3 false)], nx := 1, n := 47, pin := [] }
noncomputable def K9 (N : Nat) (o0 : Orc E R) : KT E R := kAt T (G N) live [] o0 code [1, 1, 1, 1, 1, 0, 1, 0] (kfin T Try.f60 (sp N))
noncomputable def St9 (a0 : ByteArray) : (Int × Int × (List Int)) → St E
  | (v0, v1, v2) => { ρ := [(4, .c (.at (.own 0))), (5, .c (.at (.int .i64 v0))), (7, .c (.at (.int .i64 v1)))], H := [(0, .row 3 (.int .i64) v2 false)], nx := 1, n := 47, pin := [] }
noncomputable def m0 (N : Nat) (a0 : ByteArray) (lp5 : ByteArray × Int × Int × (List Int) → Option R) : Option R :=
  ob (spec_l01Hash.m N (bytesOf a0)) fun y1 =>
  lp5 (y1, (0:Int), (0:Int), ([] : List Int))
theorem run (N : Nat) (o0 : Orc E R) (a0 : ByteArray) : runF T (G N) live [] Try.f60 code (sp N) o0 (a0, ()) = m0 N a0 (fun a => o0 loop5 (K5 N o0) (St5 a0 a)) := by kernel_rfl
theorem body5_0 (N : Nat) (o0 : Orc E R) (o1 : Orc E R) (q1 : St E → Option R) (a0 : ByteArray) (v0 : ByteArray) (v1 : Int) (v2 : Int) (v3 : List Int) : runA T (G N) live [] o1 body5 (St5 a0 (v0, v1, v2, v3)) (kloop [3, 4, 5, 6] q1 (K5 N o0)) = step5 N a0 (fun a => o0 loop9 (K9 N o0) (St9 a0 a)) (fun a => q1 (St5 a0 a)) (v0, v1, v2, v3) := by kernel_rfl
theorem body9_0 (N : Nat) (o0 : Orc E R) (o1 : Orc E R) (q1 : St E → Option R) (a0 : ByteArray) (v0 : Int) (v1 : Int) (v2 : List Int) : runA T (G N) live [] o1 body9 (St9 a0 (v0, v1, v2)) (kloop [4, 5, 7] q1 (K9 N o0)) = step9 N a0 (fun a => q1 (St9 a0 a)) (v0, v1, v2) := by kernel_rfl
theorem lp9_eq (N : Nat) (a0 : ByteArray) (a : Int × Int × (List Int)) : (orc T (G N) live [] N 2) loop9 (K9 N (orc T (G N) live [] N 2)) (St9 a0 a) = lp9 N a0 a :=
  (orc_loop (b := body9) (live := [4, 5, 7]) (by kernel_rfl)).trans (iter_eq (St9 a0) _ _ (fun q1 a => by
    have hc := congrFun (congrFun (rfl : (step9 N a0) = (step9 N a0)) (fun a => q1 (St9 a0 a))) a
    obtain ⟨u0, u1, u2⟩ := a
    exact (body9_0 N (orc T (G N) live [] N 2) (orc T (G N) live [] N 1) q1 a0 u0 u1 u2).trans hc) N a)
theorem lp5_eq (N : Nat) (a0 : ByteArray) (a : ByteArray × Int × Int × (List Int)) : (orc T (G N) live [] N 2) loop5 (K5 N (orc T (G N) live [] N 2)) (St5 a0 a) = lp5 N a0 a :=
  (orc_loop (b := body5) (live := [3, 4, 5, 6]) (by kernel_rfl)).trans (iter_eq (St5 a0) _ _ (fun q1 a => by
    have hc := congrFun (congrFun (congrArg (step5 N a0) (funext fun a => lp9_eq N a0 a)) (fun a => q1 (St5 a0 a))) a
    obtain ⟨u0, u1, u2, u3⟩ := a
    exact (body5_0 N (orc T (G N) live [] N 2) (orc T (G N) live [] N 1) q1 a0 u0 u1 u2 u3).trans hc) N a)
theorem G_ok (N : Nat) : GamOK Try.prog (G N) := gam_ok (l := [(91, [], spec_l01Hash.sp N)]) (⟨spec_l01Hash.snd N, trivial⟩)
theorem snd (N : Nat) : Sound Try.prog E 60 (sp N) :=
  Mir.sound T_OK (G_ok N) mixed Try.func60 (c := code) (by kernel_rfl) (by kernel_rfl) (sp N) (Nat.le_of_ble_eq_true (by kernel_rfl)) live [] (by
    rintro ⟨a0, _⟩ r h
    exact ⟨N, 2, ((run N _ a0).trans (congrArg (m0 N a0) (funext fun a => lp5_eq N a0 a))).trans h⟩)
end spec_l08Digits
namespace spec_Digits
noncomputable def code : Code := Try.f18.body.getD .skip
abbrev live : Live := []
noncomputable def G (N : Nat) : Ctx E := gam [(60, [], spec_l08Digits.sp N)]
noncomputable def m0 (N : Nat) (a0 : ByteArray) : Option R :=
  bif (decide ((a0.size : Int) > (65536:Int))) then
    some (([] : List Int), (2:Int))
  else
  ob (spec_l08Digits.m N a0) fun y1 =>
  some (y1, (0:Int))
theorem run (N : Nat) (o0 : Orc E R) (a0 : ByteArray) : runF T (G N) live [] Try.f18 code (sp N) o0 (a0, ()) = m0 N a0 := by kernel_rfl
theorem G_ok (N : Nat) : GamOK Try.prog (G N) := gam_ok (l := [(60, [], spec_l08Digits.sp N)]) (⟨spec_l08Digits.snd N, trivial⟩)
theorem snd (N : Nat) : Sound Try.prog E 18 (sp N) :=
  Mir.sound T_OK (G_ok N) mixed Try.func18 (c := code) (by kernel_rfl) (by kernel_rfl) (sp N) (Nat.le_of_ble_eq_true (by kernel_rfl)) live [] (by
    rintro ⟨a0, _⟩ r h
    exact ⟨N, 2, ((run N _ a0).trans rfl).trans h⟩)
end spec_Digits
namespace laws_sameInts
noncomputable def code : Code := Try.f29.body.getD .skip
abbrev live : Live := [(4, [0, 1, 5])]
noncomputable def G (N : Nat) : Ctx E := gam []
noncomputable def loop4 : Code := codeAt code [1, 1, 0, 1, 0]
noncomputable def body4 : Code := codeAt loop4 [0]
noncomputable def K4 (N : Nat) (o0 : Orc E R) : KT E R := kAt T (G N) live [] o0 code [1, 1, 0, 1, 0] (kfin T Try.f29 (sp N))
noncomputable def St4 (a0 : List Int) (a1 : List Int) : Int → St E
  | v2 => { ρ := [(0, .c (.at (.ro 3 (.int .i64) a0))), (1, .c (.at (.ro 3 (.int .i64) a1))), (5, .c (.at (.int .i64 v2)))], H := [], nx := 0, n := 26, pin := [] }
noncomputable def m0 (N : Nat) (a0 : List Int) (a1 : List Int) (lp4 : Int → Option R) : Option R :=
  bif ((a0.length : Int) != (a1.length : Int)) then
    some false
  else
  lp4 (0:Int)
theorem run (N : Nat) (o0 : Orc E R) (a0 : List Int) (a1 : List Int) : runF T (G N) live [] Try.f29 code (sp N) o0 (a0, a1, ()) = m0 N a0 a1 (fun a => o0 loop4 (K4 N o0) (St4 a0 a1 a)) := by kernel_rfl
theorem body4_0 (N : Nat) (o0 : Orc E R) (o1 : Orc E R) (q1 : St E → Option R) (a0 : List Int) (a1 : List Int) (v2 : Int) : runA T (G N) live [] o1 body4 (St4 a0 a1 v2) (kloop [0, 1, 5] q1 (K4 N o0)) = step4 N a0 a1 (fun a => q1 (St4 a0 a1 a)) v2 := by kernel_rfl
theorem lp4_eq (N : Nat) (a0 : List Int) (a1 : List Int) (a : Int) : (orc T (G N) live [] N 2) loop4 (K4 N (orc T (G N) live [] N 2)) (St4 a0 a1 a) = lp4 N a0 a1 a :=
  (orc_loop (b := body4) (live := [0, 1, 5]) (by kernel_rfl)).trans (iter_eq (St4 a0 a1) _ _ (fun q1 a => by
    have hc := congrFun (congrFun (rfl : (step4 N a0 a1) = (step4 N a0 a1)) (fun a => q1 (St4 a0 a1 a))) a
    exact (body4_0 N (orc T (G N) live [] N 2) (orc T (G N) live [] N 1) q1 a0 a1 a).trans hc) N a)
theorem G_ok (N : Nat) : GamOK Try.prog (G N) := gam_ok (l := []) (trivial)
theorem snd (N : Nat) : Sound Try.prog E 29 (sp N) :=
  Mir.sound T_OK (G_ok N) mixed Try.func29 (c := code) (by kernel_rfl) (by kernel_rfl) (sp N) (Nat.le_of_ble_eq_true (by kernel_rfl)) live [] (by
    rintro ⟨a0, a1, _⟩ r h
    exact ⟨N, 2, ((run N _ a0 a1).trans (congrArg (m0 N a0 a1) (funext fun a => lp4_eq N a0 a1 a))).trans h⟩)
end laws_sameInts
namespace spec_l00Src_digest
noncomputable def code : Code := Try.f71.body.getD .skip
abbrev live : Live := []
noncomputable def G (N : Nat) : Ctx E := gam [(103, [], spec_l00Src_next_.sp N), (91, [], spec_l01Hash.sp N)]
noncomputable def m0 (N : Nat) (a0 : l00Src) : Option R :=
  ob (spec_l00Src_next_.m N a0 (256:Int)) fun y1 =>
  ob (spec_l00Src_next_.m N y1.2 (4:Int)) fun y2 =>
  ob (spec_l01Hash.m N ([(wu8 y1.1), (wu8 y2.1)])) fun y3 =>
  some (y3, y2.2)
theorem run (N : Nat) (o0 : Orc E R) (a0 : l00Src) : runF T (G N) live [] Try.f71 code (sp N) o0 (a0, ()) = m0 N a0 := by kernel_rfl
theorem G_ok (N : Nat) : GamOK Try.prog (G N) := gam_ok (l := [(103, [], spec_l00Src_next_.sp N), (91, [], spec_l01Hash.sp N)]) (⟨spec_l00Src_next_.snd N, spec_l01Hash.snd N, trivial⟩)
theorem snd (N : Nat) : Sound Try.prog E 71 (sp N) :=
  Mir.sound T_OK (G_ok N) mixed Try.func71 (c := code) (by kernel_rfl) (by kernel_rfl) (sp N) (Nat.le_of_ble_eq_true (by kernel_rfl)) live [] (by
    rintro ⟨a0, _⟩ r h
    exact ⟨N, 2, ((run N _ a0).trans rfl).trans h⟩)
end spec_l00Src_digest
namespace spec_HashOf
noncomputable def code : Code := Try.f30.body.getD .skip
abbrev live : Live := []
noncomputable def G (N : Nat) : Ctx E := gam [(68, [], spec_l00Source.sp N), (71, [], spec_l00Src_digest.sp N)]
noncomputable def m0 (N : Nat) (a0 : List Int) : Option R :=
  ob (spec_l00Source.m N a0) fun y1 =>
  ob (spec_l00Src_digest.m N y1) fun y2 =>
  some y2.1
theorem run (N : Nat) (o0 : Orc E R) (a0 : List Int) : runF T (G N) live [] Try.f30 code (sp N) o0 (a0, ()) = m0 N a0 := by kernel_rfl
theorem G_ok (N : Nat) : GamOK Try.prog (G N) := gam_ok (l := [(68, [], spec_l00Source.sp N), (71, [], spec_l00Src_digest.sp N)]) (⟨spec_l00Source.snd N, spec_l00Src_digest.snd N, trivial⟩)
theorem snd (N : Nat) : Sound Try.prog E 30 (sp N) :=
  Mir.sound T_OK (G_ok N) mixed Try.func30 (c := code) (by kernel_rfl) (by kernel_rfl) (sp N) (Nat.le_of_ble_eq_true (by kernel_rfl)) live [] (by
    rintro ⟨a0, _⟩ r h
    exact ⟨N, 2, ((run N _ a0).trans rfl).trans h⟩)
end spec_HashOf
namespace laws_at
noncomputable def code : Code := Try.f31.body.getD .skip
abbrev live : Live := []
noncomputable def G (N : Nat) : Ctx E := gam []
noncomputable def m0 (N : Nat) (a0 : List Int) (a1 : Int) (a2 : Int) : Option R :=
  bif (decide (a2 ≤ (1:Int))) then
    some (0:Int)
  else
  bif ((a0.length : Int) == (0:Int)) then
    bif (!decide (a2 = 0)) then
    some (Int.tmod (w64 (a1 * (7:Int))) a2)
    else none
  else
  bif (!decide ((a0.length : Int) = 0)) then
  bif (decide (0 ≤ (Int.tmod a1 (a0.length : Int)))) then
  bif (decide ((Int.tmod a1 (a0.length : Int)) < (a0.length : Int))) then
  bif (!decide ((a0.length : Int) = 0)) then
  bif (decide (0 ≤ (Int.tmod (w64 (a1 + (1:Int))) (a0.length : Int)))) then
  bif (decide ((Int.tmod (w64 (a1 + (1:Int))) (a0.length : Int)) < (a0.length : Int))) then
  (let w1 : Int := (w64 ((w64 ((w64 (a0.getD (Int.toNat (Int.tmod a1 (a0.length : Int))) (0:Int))) * (31:Int))) + (w64 (a0.getD (Int.toNat (Int.tmod (w64 (a1 + (1:Int))) (a0.length : Int))) (0:Int)))))
  bif (!decide ((a0.length : Int) = 0)) then
  bif (!decide (a2 = 0)) then
  some (Int.tmod (w64 (w1 + (w64 (Int.tdiv a1 (a0.length : Int))))) a2)
  else none
  else none)
  else none
  else none
  else none
  else none
  else none
  else none
theorem run (N : Nat) (o0 : Orc E R) (a0 : List Int) (a1 : Int) (a2 : Int) : runF T (G N) live [] Try.f31 code (sp N) o0 (a0, a1, a2, ()) = m0 N a0 a1 a2 := by kernel_rfl
theorem G_ok (N : Nat) : GamOK Try.prog (G N) := gam_ok (l := []) (trivial)
theorem snd (N : Nat) : Sound Try.prog E 31 (sp N) :=
  Mir.sound T_OK (G_ok N) mixed Try.func31 (c := code) (by kernel_rfl) (by kernel_rfl) (sp N) (Nat.le_of_ble_eq_true (by kernel_rfl)) live [] (by
    rintro ⟨a0, a1, a2, _⟩ r h
    exact ⟨N, 2, ((run N _ a0 a1 a2).trans rfl).trans h⟩)
end laws_at
namespace impl_isHash_1
noncomputable def code : Code := Try.f94.body.getD .skip
abbrev live : Live := []
noncomputable def G (N : Nat) : Ctx E := gam []
noncomputable def m0 (N : Nat) (a0 : ByteArray) : Option R :=
  some ((a0.size : Int) != (32:Int))
theorem run (N : Nat) (o0 : Orc E R) (a0 : ByteArray) : runF T (G N) live [] Try.f94 code (sp N) o0 (a0, ()) = m0 N a0 := by kernel_rfl
theorem G_ok (N : Nat) : GamOK Try.prog (G N) := gam_ok (l := []) (trivial)
theorem snd (N : Nat) : Sound Try.prog E 94 (sp N) :=
  Mir.sound T_OK (G_ok N) mixed Try.func94 (c := code) (by kernel_rfl) (by kernel_rfl) (sp N) (Nat.le_of_ble_eq_true (by kernel_rfl)) live [] (by
    rintro ⟨a0, _⟩ r h
    exact ⟨N, 2, ((run N _ a0).trans rfl).trans h⟩)
end impl_isHash_1
namespace slices_IndexFunc_string_string__impl_isHash_1
noncomputable def code : Code := Try.f112.body.getD .skip
abbrev live : Live := [(2, [0, 1, 7, 8])]
noncomputable def G (N : Nat) : Ctx E := gam [(94, [], impl_isHash_1.sp N)]
noncomputable def loop2 : Code := codeAt code [1, 0, 1, 0]
noncomputable def body2 : Code := codeAt loop2 [0]
noncomputable def K2 (N : Nat) (o0 : Orc E R) : KT E R := kAt T (G N) live [] o0 code [1, 0, 1, 0] (kfin T Try.f112 (sp N))
noncomputable def St2 (a0 : List ByteArray) : (Int × Int) → St E
  | (v1, v2) => { ρ := [(0, .c (.at (.ro 9 .str a0))), (1, .clo 94 []), (7, .c (.at (.int .i64 v1))), (8, .c (.at (.int .i64 v2)))], H := [], nx := 0, n := 19, pin := [] }
noncomputable def m0 (N : Nat) (a0 : List ByteArray) (lp2 : Int × Int → Option R) : Option R :=
  lp2 ((a0.length : Int), (0:Int))
theorem run (N : Nat) (o0 : Orc E R) (a0 : List ByteArray) : runF T (G N) live [] Try.f112 code (sp N) o0 (a0, (), ()) = m0 N a0 (fun a => o0 loop2 (K2 N o0) (St2 a0 a)) := by kernel_rfl
theorem body2_0 (N : Nat) (o0 : Orc E R) (o1 : Orc E R) (q1 : St E → Option R) (a0 : List ByteArray) (v1 : Int) (v2 : Int) : runA T (G N) live [] o1 body2 (St2 a0 (v1, v2)) (kloop [0, 1, 7, 8] q1 (K2 N o0)) = step2 N a0 (fun a => q1 (St2 a0 a)) (v1, v2) := by kernel_rfl
theorem lp2_eq (N : Nat) (a0 : List ByteArray) (a : Int × Int) : (orc T (G N) live [] N 2) loop2 (K2 N (orc T (G N) live [] N 2)) (St2 a0 a) = lp2 N a0 a :=
  (orc_loop (b := body2) (live := [0, 1, 7, 8]) (by kernel_rfl)).trans (iter_eq (St2 a0) _ _ (fun q1 a => by
    have hc := congrFun (congrFun (rfl : (step2 N a0) = (step2 N a0)) (fun a => q1 (St2 a0 a))) a
    obtain ⟨u0, u1⟩ := a
    exact (body2_0 N (orc T (G N) live [] N 2) (orc T (G N) live [] N 1) q1 a0 u0 u1).trans hc) N a)
theorem G_ok (N : Nat) : GamOK Try.prog (G N) := gam_ok (l := [(94, [], impl_isHash_1.sp N)]) (⟨impl_isHash_1.snd N, trivial⟩)
theorem snd (N : Nat) : Sound Try.prog E 112 (sp N) :=
  Mir.sound T_OK (G_ok N) mixed Try.func112 (c := code) (by kernel_rfl) (by kernel_rfl) (sp N) (Nat.le_of_ble_eq_true (by kernel_rfl)) live [] (by
    rintro ⟨a0, _, _⟩ r h
    exact ⟨N, 2, ((run N _ a0).trans (congrArg (m0 N a0) (funext fun a => lp2_eq N a0 a))).trans h⟩)
end slices_IndexFunc_string_string__impl_isHash_1
namespace slices_ContainsFunc_string_string__impl_isHash_1
noncomputable def code : Code := Try.f92.body.getD .skip
abbrev live : Live := []
noncomputable def G (N : Nat) : Ctx E := gam [(112, [94], slices_IndexFunc_string_string__impl_isHash_1.sp N)]
noncomputable def m0 (N : Nat) (a0 : List ByteArray) : Option R :=
  ob (slices_IndexFunc_string_string__impl_isHash_1.m N a0) fun y1 =>
  some (decide (y1 ≥ (0:Int)))
theorem run (N : Nat) (o0 : Orc E R) (a0 : List ByteArray) : runF T (G N) live [] Try.f92 code (sp N) o0 (a0, (), ()) = m0 N a0 := by kernel_rfl
theorem G_ok (N : Nat) : GamOK Try.prog (G N) := gam_ok (l := [(112, [94], slices_IndexFunc_string_string__impl_isHash_1.sp N)]) (⟨slices_IndexFunc_string_string__impl_isHash_1.snd N, trivial⟩)
theorem snd (N : Nat) : Sound Try.prog E 92 (sp N) :=
  Mir.sound T_OK (G_ok N) mixed Try.func92 (c := code) (by kernel_rfl) (by kernel_rfl) (sp N) (Nat.le_of_ble_eq_true (by kernel_rfl)) live [] (by
    rintro ⟨a0, _, _⟩ r h
    exact ⟨N, 2, ((run N _ a0).trans rfl).trans h⟩)
end slices_ContainsFunc_string_string__impl_isHash_1
namespace impl_isHash
noncomputable def code : Code := Try.f53.body.getD .skip
abbrev live : Live := []
noncomputable def G (N : Nat) : Ctx E := gam [(92, [94], slices_ContainsFunc_string_string__impl_isHash_1.sp N)]
noncomputable def m0 (N : Nat) (a0 : List ByteArray) : Option R :=
  ob (slices_ContainsFunc_string_string__impl_isHash_1.m N a0) fun y1 =>
  some (!y1)
theorem run (N : Nat) (o0 : Orc E R) (a0 : List ByteArray) : runF T (G N) live [] Try.f53 code (sp N) o0 (a0, ()) = m0 N a0 := by kernel_rfl
theorem G_ok (N : Nat) : GamOK Try.prog (G N) := gam_ok (l := [(92, [94], slices_ContainsFunc_string_string__impl_isHash_1.sp N)]) (⟨slices_ContainsFunc_string_string__impl_isHash_1.snd N, trivial⟩)
theorem snd (N : Nat) : Sound Try.prog E 53 (sp N) :=
  Mir.sound T_OK (G_ok N) mixed Try.func53 (c := code) (by kernel_rfl) (by kernel_rfl) (sp N) (Nat.le_of_ble_eq_true (by kernel_rfl)) live [] (by
    rintro ⟨a0, _⟩ r h
    exact ⟨N, 2, ((run N _ a0).trans rfl).trans h⟩)
end impl_isHash
namespace impl_within
noncomputable def code : Code := Try.f54.body.getD .skip
abbrev live : Live := []
noncomputable def G (N : Nat) : Ctx E := gam []
noncomputable def m0 (N : Nat) (a0 : Int) (a1 : Int) (a2 : Int) : Option R :=
  bif (decide (a0 ≥ a1)) then
    some (bif true then (decide (a0 ≤ a2)) else false)
  else
  some false
theorem run (N : Nat) (o0 : Orc E R) (a0 : Int) (a1 : Int) (a2 : Int) : runF T (G N) live [] Try.f54 code (sp N) o0 (a0, a1, a2, ()) = m0 N a0 a1 a2 := by kernel_rfl
theorem G_ok (N : Nat) : GamOK Try.prog (G N) := gam_ok (l := []) (trivial)
theorem snd (N : Nat) : Sound Try.prog E 54 (sp N) :=
  Mir.sound T_OK (G_ok N) mixed Try.func54 (c := code) (by kernel_rfl) (by kernel_rfl) (sp N) (Nat.le_of_ble_eq_true (by kernel_rfl)) live [] (by
    rintro ⟨a0, a1, a2, _⟩ r h
    exact ⟨N, 2, ((run N _ a0 a1 a2).trans rfl).trans h⟩)
end impl_within
namespace impl_seedCode
noncomputable def code : Code := Try.f58.body.getD .skip
abbrev live : Live := []
noncomputable def G (N : Nat) : Ctx E := gam [(52, [], impl_isText.sp N), (53, [], impl_isHash.sp N), (54, [], impl_within.sp N)]
noncomputable def m0 (N : Nat) (a0 : ByteArray) (a1 : Int) : Option R :=
  ob (impl_isText.m N ([a0])) fun y1 =>
  bif (!y1) then
    some (2:Int)
  else
  ob (impl_isHash.m N ([a0])) fun y2 =>
  bif (!y2) then
    some (1:Int)
  else
  ob (impl_within.m N a1 (0:Int) (3:Int)) fun y3 =>
  bif (!y3) then
    some (4:Int)
  else
  some (0:Int)
theorem run (N : Nat) (o0 : Orc E R) (a0 : ByteArray) (a1 : Int) : runF T (G N) live [] Try.f58 code (sp N) o0 (a0, a1, ()) = m0 N a0 a1 := by kernel_rfl
theorem G_ok (N : Nat) : GamOK Try.prog (G N) := gam_ok (l := [(52, [], impl_isText.sp N), (53, [], impl_isHash.sp N), (54, [], impl_within.sp N)]) (⟨impl_isText.snd N, impl_isHash.snd N, impl_within.snd N, trivial⟩)
theorem snd (N : Nat) : Sound Try.prog E 58 (sp N) :=
  Mir.sound T_OK (G_ok N) mixed Try.func58 (c := code) (by kernel_rfl) (by kernel_rfl) (sp N) (Nat.le_of_ble_eq_true (by kernel_rfl)) live [] (by
    rintro ⟨a0, a1, _⟩ r h
    exact ⟨N, 2, ((run N _ a0 a1).trans rfl).trans h⟩)
end impl_seedCode
namespace impl_secretPart
noncomputable def code : Code := Try.f59.body.getD .skip
abbrev live : Live := []
noncomputable def G (N : Nat) : Ctx E := gam [(96, [], impl_number.sp N), (95, [], impl_hash.sp N)]
noncomputable def m0 (N : Nat) (a0 : ByteArray) (a1 : Int) (a2 : Int) : Option R :=
  ob (impl_number.m N a1 (1:Int)) fun y1 =>
  bif (decide ((⟨#[4]⟩ : ByteArray).size + y1.size ≤ 9223372036854775807)) then
  ob (impl_number.m N a2 (1:Int)) fun y2 =>
  bif (decide (((⟨#[4]⟩ : ByteArray) ++ y1).size + y2.size ≤ 9223372036854775807)) then
  bif (decide ((((⟨#[4]⟩ : ByteArray) ++ y1) ++ y2).size + a0.size ≤ 9223372036854775807)) then
  ob (impl_hash.m N ((((⟨#[4]⟩ : ByteArray) ++ y1) ++ y2) ++ a0)) fun y3 =>
  some y3
  else none
  else none
  else none
theorem run (N : Nat) (o0 : Orc E R) (a0 : ByteArray) (a1 : Int) (a2 : Int) : runF T (G N) live [] Try.f59 code (sp N) o0 (a0, a1, a2, ()) = m0 N a0 a1 a2 := by kernel_rfl
theorem G_ok (N : Nat) : GamOK Try.prog (G N) := gam_ok (l := [(96, [], impl_number.sp N), (95, [], impl_hash.sp N)]) (⟨impl_number.snd N, impl_hash.snd N, trivial⟩)
theorem snd (N : Nat) : Sound Try.prog E 59 (sp N) :=
  Mir.sound T_OK (G_ok N) mixed Try.func59 (c := code) (by kernel_rfl) (by kernel_rfl) (sp N) (Nat.le_of_ble_eq_true (by kernel_rfl)) live [] (by
    rintro ⟨a0, a1, a2, _⟩ r h
    exact ⟨N, 2, ((run N _ a0 a1 a2).trans rfl).trans h⟩)
end impl_secretPart
namespace impl_SecretPart
noncomputable def code : Code := Try.f17.body.getD .skip
abbrev live : Live := []
noncomputable def G (N : Nat) : Ctx E := gam [(58, [], impl_seedCode.sp N), (54, [], impl_within.sp N), (59, [], impl_secretPart.sp N)]
noncomputable def m0 (N : Nat) (a0 : ByteArray) (a1 : Int) (a2 : Int) : Option R :=
  ob (impl_seedCode.m N a0 a1) fun y1 =>
  bif (y1 != (0:Int)) then
    some (ByteArray.empty, y1)
  else
  ob (impl_within.m N a2 (0:Int) (17:Int)) fun y2 =>
  bif (!y2) then
    some (ByteArray.empty, (4:Int))
  else
  ob (impl_secretPart.m N a0 a1 a2) fun y3 =>
  some (y3, (0:Int))
theorem run (N : Nat) (o0 : Orc E R) (a0 : ByteArray) (a1 : Int) (a2 : Int) : runF T (G N) live [] Try.f17 code (sp N) o0 (a0, a1, a2, ()) = m0 N a0 a1 a2 := by kernel_rfl
theorem G_ok (N : Nat) : GamOK Try.prog (G N) := gam_ok (l := [(58, [], impl_seedCode.sp N), (54, [], impl_within.sp N), (59, [], impl_secretPart.sp N)]) (⟨impl_seedCode.snd N, impl_within.snd N, impl_secretPart.snd N, trivial⟩)
theorem snd (N : Nat) : Sound Try.prog E 17 (sp N) :=
  Mir.sound T_OK (G_ok N) mixed Try.func17 (c := code) (by kernel_rfl) (by kernel_rfl) (sp N) (Nat.le_of_ble_eq_true (by kernel_rfl)) live [] (by
    rintro ⟨a0, a1, a2, _⟩ r h
    exact ⟨N, 2, ((run N _ a0 a1 a2).trans rfl).trans h⟩)
end impl_SecretPart
namespace impl_chain
noncomputable def code : Code := Try.f55.body.getD .skip
abbrev live : Live := [(2, [0, 1, 2, 7])]
noncomputable def G (N : Nat) : Ctx E := gam [(96, [], impl_number.sp N), (95, [], impl_hash.sp N)]
noncomputable def loop2 : Code := codeAt code [1, 0, 1, 0]
noncomputable def body2 : Code := codeAt loop2 [0]
noncomputable def K2 (N : Nat) (o0 : Orc E R) : KT E R := kAt T (G N) live [] o0 code [1, 0, 1, 0] (kfin T Try.f55 (sp N))
noncomputable def St2 (a0 : ByteArray) (a1 : Int) (a2 : Int) : (ByteArray × Int) → St E
  | (v0, v3) => { ρ := [(0, .c (.at (.str v0))), (1, .c (.at (.int .i64 a1))), (2, .c (.at (.int .i64 a2))), (7, .c (.at (.int .i64 v3)))], H := [], nx := 0, n := 23, pin := [] }
noncomputable def m0 (N : Nat) (a0 : ByteArray) (a1 : Int) (a2 : Int) (lp2 : ByteArray × Int → Option R) : Option R :=
  lp2 (a0, a1)
theorem run (N : Nat) (o0 : Orc E R) (a0 : ByteArray) (a1 : Int) (a2 : Int) : runF T (G N) live [] Try.f55 code (sp N) o0 (a0, a1, a2, ()) = m0 N a0 a1 a2 (fun a => o0 loop2 (K2 N o0) (St2 a0 a1 a2 a)) := by kernel_rfl
theorem body2_0 (N : Nat) (o0 : Orc E R) (o1 : Orc E R) (q1 : St E → Option R) (a0 : ByteArray) (a1 : Int) (a2 : Int) (v0 : ByteArray) (v3 : Int) : runA T (G N) live [] o1 body2 (St2 a0 a1 a2 (v0, v3)) (kloop [0, 1, 2, 7] q1 (K2 N o0)) = step2 N a0 a1 a2 (fun a => q1 (St2 a0 a1 a2 a)) (v0, v3) := by kernel_rfl
theorem lp2_eq (N : Nat) (a0 : ByteArray) (a1 : Int) (a2 : Int) (a : ByteArray × Int) : (orc T (G N) live [] N 2) loop2 (K2 N (orc T (G N) live [] N 2)) (St2 a0 a1 a2 a) = lp2 N a0 a1 a2 a :=
  (orc_loop (b := body2) (live := [0, 1, 2, 7]) (by kernel_rfl)).trans (iter_eq (St2 a0 a1 a2) _ _ (fun q1 a => by
    have hc := congrFun (congrFun (rfl : (step2 N a0 a1 a2) = (step2 N a0 a1 a2)) (fun a => q1 (St2 a0 a1 a2 a))) a
    obtain ⟨u0, u1⟩ := a
    exact (body2_0 N (orc T (G N) live [] N 2) (orc T (G N) live [] N 1) q1 a0 a1 a2 u0 u1).trans hc) N a)
theorem G_ok (N : Nat) : GamOK Try.prog (G N) := gam_ok (l := [(96, [], impl_number.sp N), (95, [], impl_hash.sp N)]) (⟨impl_number.snd N, impl_hash.snd N, trivial⟩)
theorem snd (N : Nat) : Sound Try.prog E 55 (sp N) :=
  Mir.sound T_OK (G_ok N) mixed Try.func55 (c := code) (by kernel_rfl) (by kernel_rfl) (sp N) (Nat.le_of_ble_eq_true (by kernel_rfl)) live [] (by
    rintro ⟨a0, a1, a2, _⟩ r h
    exact ⟨N, 2, ((run N _ a0 a1 a2).trans (congrArg (m0 N a0 a1 a2) (funext fun a => lp2_eq N a0 a1 a2 a))).trans h⟩)
end impl_chain
namespace impl_Chain
noncomputable def code : Code := Try.f15.body.getD .skip
abbrev live : Live := []
noncomputable def G (N : Nat) : Ctx E := gam [(52, [], impl_isText.sp N), (53, [], impl_isHash.sp N), (54, [], impl_within.sp N), (55, [], impl_chain.sp N)]
noncomputable def m0 (N : Nat) (a0 : ByteArray) (a1 : Int) (a2 : Int) : Option R :=
  ob (impl_isText.m N ([a0])) fun y1 =>
  bif (!y1) then
    some (ByteArray.empty, (2:Int))
  else
  ob (impl_isHash.m N ([a0])) fun y2 =>
  bif (!y2) then
    some (ByteArray.empty, (1:Int))
  else
  ob (impl_within.m N a1 (0:Int) (15:Int)) fun y3 =>
  bif (!y3) then
    some (ByteArray.empty, (4:Int))
  else
  ob (impl_within.m N a2 (0:Int) (w64 ((15:Int) - a1))) fun y4 =>
  bif (bif false then true else (!y4)) then
    some (ByteArray.empty, (4:Int))
  else
  ob (impl_chain.m N a0 a1 a2) fun y5 =>
  some (y5, (0:Int))
theorem run (N : Nat) (o0 : Orc E R) (a0 : ByteArray) (a1 : Int) (a2 : Int) : runF T (G N) live [] Try.f15 code (sp N) o0 (a0, a1, a2, ()) = m0 N a0 a1 a2 := by kernel_rfl
theorem G_ok (N : Nat) : GamOK Try.prog (G N) := gam_ok (l := [(52, [], impl_isText.sp N), (53, [], impl_isHash.sp N), (54, [], impl_within.sp N), (55, [], impl_chain.sp N)]) (⟨impl_isText.snd N, impl_isHash.snd N, impl_within.snd N, impl_chain.snd N, trivial⟩)
theorem snd (N : Nat) : Sound Try.prog E 15 (sp N) :=
  Mir.sound T_OK (G_ok N) mixed Try.func15 (c := code) (by kernel_rfl) (by kernel_rfl) (sp N) (Nat.le_of_ble_eq_true (by kernel_rfl)) live [] (by
    rintro ⟨a0, a1, a2, _⟩ r h
    exact ⟨N, 2, ((run N _ a0 a1 a2).trans rfl).trans h⟩)
end impl_Chain
namespace impl_endsLeaf
noncomputable def code : Code := Try.f98.body.getD .skip
abbrev live : Live := [(3, [3, 6, 7, 8])]
noncomputable def G (N : Nat) : Ctx E := gam [(95, [], impl_hash.sp N)]
noncomputable def loop3 : Code := codeAt code [1, 1, 0, 1, 0]
noncomputable def body3 : Code := codeAt loop3 [0]
noncomputable def K3 (N : Nat) (o0 : Orc E R) : KT E R := kAt T (G N) live [] o0 code [1, 1, 0, 1, 0] (kfin T Try.f98 (sp N))
noncomputable def St3 (a0 : List ByteArray) : (ByteArray × Int × Int) → St E
  | (v0, v2, v3) => { ρ := [(3, .c (.at (.str v0))), (6, .c (.at (.ro 9 .str a0))), (7, .c (.at (.int .i64 v2))), (8, .c (.at (.int .i64 v3)))], H := [], nx := 0, n := 18, pin := [] }
noncomputable def m0 (N : Nat) (a0 : List ByteArray) (lp3 : ByteArray × Int × Int → Option R) : Option R :=
  lp3 ((⟨#[5]⟩ : ByteArray), (a0.length : Int), (0:Int))
theorem run (N : Nat) (o0 : Orc E R) (a0 : List ByteArray) : runF T (G N) live [] Try.f98 code (sp N) o0 (a0, ()) = m0 N a0 (fun a => o0 loop3 (K3 N o0) (St3 a0 a)) := by kernel_rfl
theorem body3_0 (N : Nat) (o0 : Orc E R) (o1 : Orc E R) (q1 : St E → Option R) (a0 : List ByteArray) (v0 : ByteArray) (v2 : Int) (v3 : Int) : runA T (G N) live [] o1 body3 (St3 a0 (v0, v2, v3)) (kloop [3, 6, 7, 8] q1 (K3 N o0)) = step3 N a0 (fun a => q1 (St3 a0 a)) (v0, v2, v3) := by kernel_rfl
theorem lp3_eq (N : Nat) (a0 : List ByteArray) (a : ByteArray × Int × Int) : (orc T (G N) live [] N 2) loop3 (K3 N (orc T (G N) live [] N 2)) (St3 a0 a) = lp3 N a0 a :=
  (orc_loop (b := body3) (live := [3, 6, 7, 8]) (by kernel_rfl)).trans (iter_eq (St3 a0) _ _ (fun q1 a => by
    have hc := congrFun (congrFun (rfl : (step3 N a0) = (step3 N a0)) (fun a => q1 (St3 a0 a))) a
    obtain ⟨u0, u1, u2⟩ := a
    exact (body3_0 N (orc T (G N) live [] N 2) (orc T (G N) live [] N 1) q1 a0 u0 u1 u2).trans hc) N a)
theorem G_ok (N : Nat) : GamOK Try.prog (G N) := gam_ok (l := [(95, [], impl_hash.sp N)]) (⟨impl_hash.snd N, trivial⟩)
theorem snd (N : Nat) : Sound Try.prog E 98 (sp N) :=
  Mir.sound T_OK (G_ok N) mixed Try.func98 (c := code) (by kernel_rfl) (by kernel_rfl) (sp N) (Nat.le_of_ble_eq_true (by kernel_rfl)) live [] (by
    rintro ⟨a0, _⟩ r h
    exact ⟨N, 2, ((run N _ a0).trans (congrArg (m0 N a0) (funext fun a => lp3_eq N a0 a))).trans h⟩)
end impl_endsLeaf
namespace impl_leafKey
noncomputable def code : Code := Try.f63.body.getD .skip
abbrev live : Live := [(3, [0, 1, 5, 8])]
noncomputable def G (N : Nat) : Ctx E := gam [(59, [], impl_secretPart.sp N), (55, [], impl_chain.sp N), (98, [], impl_endsLeaf.sp N)]
noncomputable def loop3 : Code := codeAt code [1, 1, 0, 1, 0]
noncomputable def body3 : Code := codeAt loop3 [0]
noncomputable def K3 (N : Nat) (o0 : Orc E R) : KT E R := kAt T (G N) live [] o0 code [1, 1, 0, 1, 0] (kfin T Try.f63 (sp N))
noncomputable def St3 (a0 : ByteArray) (a1 : Int) : (Int × (List ByteArray)) → St E
  | (v2, v3) => { ρ := [(0, .c (.at (.str a0))), (1, .c (.at (.int .i64 a1))), (5, .c (.at (.own 0))), (8, .c (.at (.int .i64 v2)))], H := [(0, .row 9 .str v3 false)], nx := 1, n := 22, pin := [] }
noncomputable def m0 (N : Nat) (a0 : ByteArray) (a1 : Int) (lp3 : Int × (List ByteArray) → Option R) : Option R :=
  lp3 ((0:Int), ([] : List ByteArray))
theorem run (N : Nat) (o0 : Orc E R) (a0 : ByteArray) (a1 : Int) : runF T (G N) live [] Try.f63 code (sp N) o0 (a0, a1, ()) = m0 N a0 a1 (fun a => o0 loop3 (K3 N o0) (St3 a0 a1 a)) := by kernel_rfl
theorem body3_0 (N : Nat) (o0 : Orc E R) (o1 : Orc E R) (q1 : St E → Option R) (a0 : ByteArray) (a1 : Int) (v2 : Int) (v3 : List ByteArray) : runA T (G N) live [] o1 body3 (St3 a0 a1 (v2, v3)) (kloop [0, 1, 5, 8] q1 (K3 N o0)) = step3 N a0 a1 (fun a => q1 (St3 a0 a1 a)) (v2, v3) := by kernel_rfl
theorem lp3_eq (N : Nat) (a0 : ByteArray) (a1 : Int) (a : Int × (List ByteArray)) : (orc T (G N) live [] N 2) loop3 (K3 N (orc T (G N) live [] N 2)) (St3 a0 a1 a) = lp3 N a0 a1 a :=
  (orc_loop (b := body3) (live := [0, 1, 5, 8]) (by kernel_rfl)).trans (iter_eq (St3 a0 a1) _ _ (fun q1 a => by
    have hc := congrFun (congrFun (rfl : (step3 N a0 a1) = (step3 N a0 a1)) (fun a => q1 (St3 a0 a1 a))) a
    obtain ⟨u0, u1⟩ := a
    exact (body3_0 N (orc T (G N) live [] N 2) (orc T (G N) live [] N 1) q1 a0 a1 u0 u1).trans hc) N a)
theorem G_ok (N : Nat) : GamOK Try.prog (G N) := gam_ok (l := [(59, [], impl_secretPart.sp N), (55, [], impl_chain.sp N), (98, [], impl_endsLeaf.sp N)]) (⟨impl_secretPart.snd N, impl_chain.snd N, impl_endsLeaf.snd N, trivial⟩)
theorem snd (N : Nat) : Sound Try.prog E 63 (sp N) :=
  Mir.sound T_OK (G_ok N) mixed Try.func63 (c := code) (by kernel_rfl) (by kernel_rfl) (sp N) (Nat.le_of_ble_eq_true (by kernel_rfl)) live [] (by
    rintro ⟨a0, a1, _⟩ r h
    exact ⟨N, 2, ((run N _ a0 a1).trans (congrArg (m0 N a0 a1) (funext fun a => lp3_eq N a0 a1 a))).trans h⟩)
end impl_leafKey
namespace impl_LeafKey
noncomputable def code : Code := Try.f24.body.getD .skip
abbrev live : Live := []
noncomputable def G (N : Nat) : Ctx E := gam [(58, [], impl_seedCode.sp N), (63, [], impl_leafKey.sp N)]
noncomputable def m0 (N : Nat) (a0 : ByteArray) (a1 : Int) : Option R :=
  ob (impl_seedCode.m N a0 a1) fun y1 =>
  bif (y1 != (0:Int)) then
    some (ByteArray.empty, y1)
  else
  ob (impl_leafKey.m N a0 a1) fun y2 =>
  some (y2, (0:Int))
theorem run (N : Nat) (o0 : Orc E R) (a0 : ByteArray) (a1 : Int) : runF T (G N) live [] Try.f24 code (sp N) o0 (a0, a1, ()) = m0 N a0 a1 := by kernel_rfl
theorem G_ok (N : Nat) : GamOK Try.prog (G N) := gam_ok (l := [(58, [], impl_seedCode.sp N), (63, [], impl_leafKey.sp N)]) (⟨impl_seedCode.snd N, impl_leafKey.snd N, trivial⟩)
theorem snd (N : Nat) : Sound Try.prog E 24 (sp N) :=
  Mir.sound T_OK (G_ok N) mixed Try.func24 (c := code) (by kernel_rfl) (by kernel_rfl) (sp N) (Nat.le_of_ble_eq_true (by kernel_rfl)) live [] (by
    rintro ⟨a0, a1, _⟩ r h
    exact ⟨N, 2, ((run N _ a0 a1).trans rfl).trans h⟩)
end impl_LeafKey
namespace spec_l01In
noncomputable def code : Code := Try.f50.body.getD .skip
abbrev live : Live := []
noncomputable def G (N : Nat) : Ctx E := gam []
noncomputable def m0 (N : Nat) (a0 : Int) (a1 : Int) (a2 : Int) : Option R :=
  bif (decide (a0 ≥ a1)) then
    some (bif true then (decide (a0 ≤ a2)) else false)
  else
  some false
theorem run (N : Nat) (o0 : Orc E R) (a0 : Int) (a1 : Int) (a2 : Int) : runF T (G N) live [] Try.f50 code (sp N) o0 (a0, a1, a2, ()) = m0 N a0 a1 a2 := by kernel_rfl
theorem G_ok (N : Nat) : GamOK Try.prog (G N) := gam_ok (l := []) (trivial)
theorem snd (N : Nat) : Sound Try.prog E 50 (sp N) :=
  Mir.sound T_OK (G_ok N) mixed Try.func50 (c := code) (by kernel_rfl) (by kernel_rfl) (sp N) (Nat.le_of_ble_eq_true (by kernel_rfl)) live [] (by
    rintro ⟨a0, a1, a2, _⟩ r h
    exact ⟨N, 2, ((run N _ a0 a1 a2).trans rfl).trans h⟩)
end spec_l01In
namespace spec_l08Index
noncomputable def code : Code := Try.f56.body.getD .skip
abbrev live : Live := []
noncomputable def G (N : Nat) : Ctx E := gam [(50, [], spec_l01In.sp N)]
noncomputable def m0 (N : Nat) (a0 : Int) : Option R :=
  ob (spec_l01In.m N a0 (0:Int) (3:Int)) fun y1 =>
  some y1
theorem run (N : Nat) (o0 : Orc E R) (a0 : Int) : runF T (G N) live [] Try.f56 code (sp N) o0 (a0, ()) = m0 N a0 := by kernel_rfl
theorem G_ok (N : Nat) : GamOK Try.prog (G N) := gam_ok (l := [(50, [], spec_l01In.sp N)]) (⟨spec_l01In.snd N, trivial⟩)
theorem snd (N : Nat) : Sound Try.prog E 56 (sp N) :=
  Mir.sound T_OK (G_ok N) mixed Try.func56 (c := code) (by kernel_rfl) (by kernel_rfl) (sp N) (Nat.le_of_ble_eq_true (by kernel_rfl)) live [] (by
    rintro ⟨a0, _⟩ r h
    exact ⟨N, 2, ((run N _ a0).trans rfl).trans h⟩)
end spec_l08Index
namespace spec_l08Secret
noncomputable def code : Code := Try.f57.body.getD .skip
abbrev live : Live := []
noncomputable def G (N : Nat) : Ctx E := gam [(91, [], spec_l01Hash.sp N)]
noncomputable def m0 (N : Nat) (a0 : ByteArray) (a1 : Int) (a2 : Int) : Option R :=
  bif (room (([(4:Int), (wu8 a1), (wu8 a2)]).length + (bytesOf a0).length) 1) then
  ob (spec_l01Hash.m N ([(4:Int), (wu8 a1), (wu8 a2)] ++ (bytesOf a0))) fun y1 =>
  some y1
  else none
theorem run (N : Nat) (o0 : Orc E R) (a0 : ByteArray) (a1 : Int) (a2 : Int) : runF T (G N) live [] Try.f57 code (sp N) o0 (a0, a1, a2, ()) = m0 N a0 a1 a2 := by kernel_rfl
theorem G_ok (N : Nat) : GamOK Try.prog (G N) := gam_ok (l := [(91, [], spec_l01Hash.sp N)]) (⟨spec_l01Hash.snd N, trivial⟩)
theorem snd (N : Nat) : Sound Try.prog E 57 (sp N) :=
  Mir.sound T_OK (G_ok N) mixed Try.func57 (c := code) (by kernel_rfl) (by kernel_rfl) (sp N) (Nat.le_of_ble_eq_true (by kernel_rfl)) live [] (by
    rintro ⟨a0, a1, a2, _⟩ r h
    exact ⟨N, 2, ((run N _ a0 a1 a2).trans rfl).trans h⟩)
end spec_l08Secret
namespace spec_l08Chain
noncomputable def code : Code := Try.f51.body.getD .skip
abbrev live : Live := [(2, [0, 1, 2, 7])]
noncomputable def G (N : Nat) : Ctx E := gam [(91, [], spec_l01Hash.sp N)]
noncomputable def loop2 : Code := codeAt code [1, 0, 1, 0]
noncomputable def body2 : Code := codeAt loop2 [0]
noncomputable def K2 (N : Nat) (o0 : Orc E R) : KT E R := kAt T (G N) live [] o0 code [1, 0, 1, 0] (kfin T Try.f51 (sp N))
noncomputable def St2 (a0 : ByteArray) (a1 : Int) (a2 : Int) : (ByteArray × Int) → St E
  | (v0, v3) => { ρ := [(0, .c (.at (.str v0))), (1, .c (.at (.int .i64 a1))), (2, .c (.at (.int .i64 a2))), (7, .c (.at (.int .i64 v3)))], H := [], nx := 0, n := 22, pin := [] }
noncomputable def m0 (N : Nat) (a0 : ByteArray) (a1 : Int) (a2 : Int) (lp2 : ByteArray × Int → Option R) : Option R :=
  lp2 (a0, (0:Int))
theorem run (N : Nat) (o0 : Orc E R) (a0 : ByteArray) (a1 : Int) (a2 : Int) : runF T (G N) live [] Try.f51 code (sp N) o0 (a0, a1, a2, ()) = m0 N a0 a1 a2 (fun a => o0 loop2 (K2 N o0) (St2 a0 a1 a2 a)) := by kernel_rfl
theorem body2_0 (N : Nat) (o0 : Orc E R) (o1 : Orc E R) (q1 : St E → Option R) (a0 : ByteArray) (a1 : Int) (a2 : Int) (v0 : ByteArray) (v3 : Int) : runA T (G N) live [] o1 body2 (St2 a0 a1 a2 (v0, v3)) (kloop [0, 1, 2, 7] q1 (K2 N o0)) = step2 N a0 a1 a2 (fun a => q1 (St2 a0 a1 a2 a)) (v0, v3) := by kernel_rfl
theorem lp2_eq (N : Nat) (a0 : ByteArray) (a1 : Int) (a2 : Int) (a : ByteArray × Int) : (orc T (G N) live [] N 2) loop2 (K2 N (orc T (G N) live [] N 2)) (St2 a0 a1 a2 a) = lp2 N a0 a1 a2 a :=
  (orc_loop (b := body2) (live := [0, 1, 2, 7]) (by kernel_rfl)).trans (iter_eq (St2 a0 a1 a2) _ _ (fun q1 a => by
    have hc := congrFun (congrFun (rfl : (step2 N a0 a1 a2) = (step2 N a0 a1 a2)) (fun a => q1 (St2 a0 a1 a2 a))) a
    obtain ⟨u0, u1⟩ := a
    exact (body2_0 N (orc T (G N) live [] N 2) (orc T (G N) live [] N 1) q1 a0 a1 a2 u0 u1).trans hc) N a)
theorem G_ok (N : Nat) : GamOK Try.prog (G N) := gam_ok (l := [(91, [], spec_l01Hash.sp N)]) (⟨spec_l01Hash.snd N, trivial⟩)
theorem snd (N : Nat) : Sound Try.prog E 51 (sp N) :=
  Mir.sound T_OK (G_ok N) mixed Try.func51 (c := code) (by kernel_rfl) (by kernel_rfl) (sp N) (Nat.le_of_ble_eq_true (by kernel_rfl)) live [] (by
    rintro ⟨a0, a1, a2, _⟩ r h
    exact ⟨N, 2, ((run N _ a0 a1 a2).trans (congrArg (m0 N a0 a1 a2) (funext fun a => lp2_eq N a0 a1 a2 a))).trans h⟩)
end spec_l08Chain
namespace spec_l08Ends
noncomputable def code : Code := Try.f97.body.getD .skip
abbrev live : Live := [(3, [0, 3, 4])]
noncomputable def G (N : Nat) : Ctx E := gam [(91, [], spec_l01Hash.sp N)]
noncomputable def loop3 : Code := codeAt code [1, 1, 0, 1, 0]
noncomputable def body3 : Code := codeAt loop3 [0]
noncomputable def K3 (N : Nat) (o0 : Orc E R) : KT E R := kAt T (G N) live [] o0 code [1, 1, 0, 1, 0] (kfin T Try.f97 (sp N))
noncomputable def St3 (a0 : List ByteArray) : (Int × (List Int)) → St E
  | (v1, v2) => { ρ := [(0, .c (.at (.ro 9 .str a0))), (3, .c (.at (.own 0))), (4, .c (.at (.int .i64 v1)))], H := [(0, .row 5 (.int .u8) v2 false)], nx := 1, n := 20, pin := [] }
noncomputable def m0 (N : Nat) (a0 : List ByteArray) (lp3 : Int × (List Int) → Option R) : Option R :=
  lp3 ((0:Int), [(5:Int)])
theorem run (N : Nat) (o0 : Orc E R) (a0 : List ByteArray) : runF T (G N) live [] Try.f97 code (sp N) o0 (a0, ()) = m0 N a0 (fun a => o0 loop3 (K3 N o0) (St3 a0 a)) := by kernel_rfl
theorem body3_0 (N : Nat) (o0 : Orc E R) (o1 : Orc E R) (q1 : St E → Option R) (a0 : List ByteArray) (v1 : Int) (v2 : List Int) : runA T (G N) live [] o1 body3 (St3 a0 (v1, v2)) (kloop [0, 3, 4] q1 (K3 N o0)) = step3 N a0 (fun a => q1 (St3 a0 a)) (v1, v2) := by kernel_rfl
theorem lp3_eq (N : Nat) (a0 : List ByteArray) (a : Int × (List Int)) : (orc T (G N) live [] N 2) loop3 (K3 N (orc T (G N) live [] N 2)) (St3 a0 a) = lp3 N a0 a :=
  (orc_loop (b := body3) (live := [0, 3, 4]) (by kernel_rfl)).trans (iter_eq (St3 a0) _ _ (fun q1 a => by
    have hc := congrFun (congrFun (rfl : (step3 N a0) = (step3 N a0)) (fun a => q1 (St3 a0 a))) a
    obtain ⟨u0, u1⟩ := a
    exact (body3_0 N (orc T (G N) live [] N 2) (orc T (G N) live [] N 1) q1 a0 u0 u1).trans hc) N a)
theorem G_ok (N : Nat) : GamOK Try.prog (G N) := gam_ok (l := [(91, [], spec_l01Hash.sp N)]) (⟨spec_l01Hash.snd N, trivial⟩)
theorem snd (N : Nat) : Sound Try.prog E 97 (sp N) :=
  Mir.sound T_OK (G_ok N) mixed Try.func97 (c := code) (by kernel_rfl) (by kernel_rfl) (sp N) (Nat.le_of_ble_eq_true (by kernel_rfl)) live [] (by
    rintro ⟨a0, _⟩ r h
    exact ⟨N, 2, ((run N _ a0).trans (congrArg (m0 N a0) (funext fun a => lp3_eq N a0 a))).trans h⟩)
end spec_l08Ends
namespace spec_l08Leaf
noncomputable def code : Code := Try.f62.body.getD .skip
abbrev live : Live := [(3, [0, 1, 5, 6])]
noncomputable def G (N : Nat) : Ctx E := gam [(57, [], spec_l08Secret.sp N), (51, [], spec_l08Chain.sp N), (97, [], spec_l08Ends.sp N)]
noncomputable def loop3 : Code := codeAt code [1, 1, 0, 1, 0]
noncomputable def body3 : Code := codeAt loop3 [0]
noncomputable def K3 (N : Nat) (o0 : Orc E R) : KT E R := kAt T (G N) live [] o0 code [1, 1, 0, 1, 0] (kfin T Try.f62 (sp N))
noncomputable def St3 (a0 : ByteArray) (a1 : Int) : (Int × (List ByteArray)) → St E
  | (v2, v3) => { ρ := [(0, .c (.at (.str a0))), (1, .c (.at (.int .i64 a1))), (5, .c (.at (.own 0))), (6, .c (.at (.int .i64 v2)))], H := [(0, .row 9 .str v3 false)], nx := 1, n := 22, pin := [] }
noncomputable def m0 (N : Nat) (a0 : ByteArray) (a1 : Int) (lp3 : Int × (List ByteArray) → Option R) : Option R :=
  lp3 ((0:Int), ([] : List ByteArray))
theorem run (N : Nat) (o0 : Orc E R) (a0 : ByteArray) (a1 : Int) : runF T (G N) live [] Try.f62 code (sp N) o0 (a0, a1, ()) = m0 N a0 a1 (fun a => o0 loop3 (K3 N o0) (St3 a0 a1 a)) := by kernel_rfl
theorem body3_0 (N : Nat) (o0 : Orc E R) (o1 : Orc E R) (q1 : St E → Option R) (a0 : ByteArray) (a1 : Int) (v2 : Int) (v3 : List ByteArray) : runA T (G N) live [] o1 body3 (St3 a0 a1 (v2, v3)) (kloop [0, 1, 5, 6] q1 (K3 N o0)) = step3 N a0 a1 (fun a => q1 (St3 a0 a1 a)) (v2, v3) := by kernel_rfl
theorem lp3_eq (N : Nat) (a0 : ByteArray) (a1 : Int) (a : Int × (List ByteArray)) : (orc T (G N) live [] N 2) loop3 (K3 N (orc T (G N) live [] N 2)) (St3 a0 a1 a) = lp3 N a0 a1 a :=
  (orc_loop (b := body3) (live := [0, 1, 5, 6]) (by kernel_rfl)).trans (iter_eq (St3 a0 a1) _ _ (fun q1 a => by
    have hc := congrFun (congrFun (rfl : (step3 N a0 a1) = (step3 N a0 a1)) (fun a => q1 (St3 a0 a1 a))) a
    obtain ⟨u0, u1⟩ := a
    exact (body3_0 N (orc T (G N) live [] N 2) (orc T (G N) live [] N 1) q1 a0 a1 u0 u1).trans hc) N a)
theorem G_ok (N : Nat) : GamOK Try.prog (G N) := gam_ok (l := [(57, [], spec_l08Secret.sp N), (51, [], spec_l08Chain.sp N), (97, [], spec_l08Ends.sp N)]) (⟨spec_l08Secret.snd N, spec_l08Chain.snd N, spec_l08Ends.snd N, trivial⟩)
theorem snd (N : Nat) : Sound Try.prog E 62 (sp N) :=
  Mir.sound T_OK (G_ok N) mixed Try.func62 (c := code) (by kernel_rfl) (by kernel_rfl) (sp N) (Nat.le_of_ble_eq_true (by kernel_rfl)) live [] (by
    rintro ⟨a0, a1, _⟩ r h
    exact ⟨N, 2, ((run N _ a0 a1).trans (congrArg (m0 N a0 a1) (funext fun a => lp3_eq N a0 a1 a))).trans h⟩)
end spec_l08Leaf
namespace spec_LeafKey
noncomputable def code : Code := Try.f23.body.getD .skip
abbrev live : Live := []
noncomputable def G (N : Nat) : Ctx E := gam [(56, [], spec_l08Index.sp N), (62, [], spec_l08Leaf.sp N)]
noncomputable def m0 (N : Nat) (a0 : ByteArray) (a1 : Int) : Option R :=
  bif (decide ((a0.size : Int) > (65536:Int))) then
    some (ByteArray.empty, (2:Int))
  else
  bif ((a0.size : Int) != (32:Int)) then
    some (ByteArray.empty, (1:Int))
  else
  ob (spec_l08Index.m N a1) fun y1 =>
  bif (!y1) then
    some (ByteArray.empty, (4:Int))
  else
  ob (spec_l08Leaf.m N a0 a1) fun y2 =>
  some (y2, (0:Int))
theorem run (N : Nat) (o0 : Orc E R) (a0 : ByteArray) (a1 : Int) : runF T (G N) live [] Try.f23 code (sp N) o0 (a0, a1, ()) = m0 N a0 a1 := by kernel_rfl
theorem G_ok (N : Nat) : GamOK Try.prog (G N) := gam_ok (l := [(56, [], spec_l08Index.sp N), (62, [], spec_l08Leaf.sp N)]) (⟨spec_l08Index.snd N, spec_l08Leaf.snd N, trivial⟩)
theorem snd (N : Nat) : Sound Try.prog E 23 (sp N) :=
  Mir.sound T_OK (G_ok N) mixed Try.func23 (c := code) (by kernel_rfl) (by kernel_rfl) (sp N) (Nat.le_of_ble_eq_true (by kernel_rfl)) live [] (by
    rintro ⟨a0, a1, _⟩ r h
    exact ⟨N, 2, ((run N _ a0 a1).trans rfl).trans h⟩)
end spec_LeafKey
namespace laws_FnChains
noncomputable def code : Code := Try.f8.body.getD .skip
abbrev live : Live := [(12, [0, 1, 5, 7, 11, 12, 13, 14])]
noncomputable def G (N : Nat) : Ctx E := gam [(27, [], spec_BytesOf.sp N), (19, [], impl_Digits.sp N), (28, [], spec_MessageOf.sp N), (18, [], spec_Digits.sp N), (29, [], laws_sameInts.sp N), (30, [], spec_HashOf.sp N), (31, [], laws_at.sp N), (17, [], impl_SecretPart.sp N), (15, [], impl_Chain.sp N), (24, [], impl_LeafKey.sp N), (23, [], spec_LeafKey.sp N)]
noncomputable def loop12 : Code := codeAt code [1, 1, 1, 1, 1, 1, 1, 1, 1, 0, 1, 0]
noncomputable def body12 : Code := codeAt loop12 [0]
noncomputable def K12 (N : Nat) (o0 : Orc E R) : KT E R := kAt T (G N) live [] o0 code [1, 1, 1, 1, 1, 1, 1, 1, 1, 0, 1, 0] (kfin T Try.f8 (sp N))
noncomputable def St12 (a0 : List Int) (a1 : List Int) : A12 → St E
  | .s0 v2 v3 v4 v5 => { ρ := [(0, .c (.at (.ro 5 (.int .u8) a0))), (1, .c (.at (.ro 5 (.int .u8) a1))), (5, .c (.at (.own 0))), (7, .c (.at (.own 1))), (11, .c (.at (.int .i64 v2))), (12, .c (.at (.bool false))), (13, .c (.at (.bool false))), (14, .c (.at (.int .i64 v3)))], H := [(0, .row 3 (.int .i64) v4 false), (1, .row 3 (.int .i64) v5 false)], nx := 2, n := 203, pin := [] }
  | .s1 v2 v3 v4 v5 v6 v7 => { ρ := [(0, .c (.at (.ro 5 (.int .u8) a0))), (1, .c (.at (.ro 5 (.int .u8) a1))), (5, .c (.at (.own 0))), (7, .c (.at (.own 1))), (11, .c (.at (.int .i64 v2))), (12, .c (.at (.bool v3))), (13, .c (.at (.bool v4))), (14, .c (.at (.int .i64 v5)))], H := [(0, .row 3 (.int .i64) v6 false), (1, .row 3 (.int .i64) v7 false)], nx := 2, n := 203, pin := [] }
  | .s2 v2 v3 v4 v5 => { ρ := [(0, .c (.at (.ro 5 (.int .u8) a0))), (1, .c (.at (.ro 5 (.int .u8) a1))), (5, .c (.at (.own 0))), (7, .c (.at (.own 1))), (11, .c (.at (.int .i64 v2))), (12, .c (.at (.bool true))), (13, .c (.at (.bool true))), (14, .c (.at (.int .i64 v3)))], H := [(0, .row 3 (.int .i64) v4 false), (1, .row 3 (.int .i64) v5 false)], nx := 2, n := 203, pin := [] }
  | .s3 v2 v3 v4 v5 v6 => { ρ := [(0, .c (.at (.ro 5 (.int .u8) a0))), (1, .c (.at (.ro 5 (.int .u8) a1))), (5, .c (.at (.own 0))), (7, .c (.at (.own 1))), (11, .c (.at (.int .i64 v2))), (12, .c (.at (.bool true))), (13, .c (.at (.bool v3))), (14, .c (.at (.int .i64 v4)))], H := [(0, .row 3 (.int .i64) v5 false), (1, .row 3 (.int .i64) v6 false)], nx := 2, n := 203, pin := [] }
  | .s4 v2 v3 v4 v5 v6 => { ρ := [(0, .c (.at (.ro 5 (.int .u8) a0))), (1, .c (.at (.ro 5 (.int .u8) a1))), (5, .c (.at (.own 0))), (7, .c (.at (.own 1))), (11, .c (.at (.int .i64 v2))), (12, .c (.at (.bool v3))), (13, .c (.at (.bool true))), (14, .c (.at (.int .i64 v4)))], H := [(0, .row 3 (.int .i64) v5 false), (1, .row 3 (.int .i64) v6 false)], nx := 2, n := 203, pin := [] }
noncomputable def m0 (N : Nat) (a0 : List Int) (a1 : List Int) (lp12 : A12 → Option R) : Option R :=
  bif (decide ((a0.length : Int) > (1048576:Int))) then
    some true
  else
  bif (bif false then true else (decide ((a1.length : Int) > (1048576:Int)))) then
    some true
  else
  ob (spec_BytesOf.m N a0 (20:Int)) fun y1 =>
  ob (impl_Digits.m N (strOf y1)) fun y2 =>
  ob (spec_MessageOf.m N a1) fun y3 =>
  ob (impl_Digits.m N y3) fun y4 =>
  ob (spec_BytesOf.m N a0 (20:Int)) fun y5 =>
  ob (spec_Digits.m N (strOf y5)) fun y6 =>
  bif (y2.2 != (0:Int)) then
    some false
  else
  bif (bif false then true else (y4.2 != (0:Int))) then
    some false
  else
  ob (laws_sameInts.m N y2.1 y6.1) fun y7 =>
  bif (bif false then true else (!y7)) then
    some false
  else
  bif (bif false then true else ((y2.1.length : Int) != (18:Int))) then
    some false
  else
  lp12 (.s0 (0:Int) (0:Int) y2.1 y4.1)
theorem run (N : Nat) (o0 : Orc E R) (a0 : List Int) (a1 : List Int) : runF T (G N) live [] Try.f8 code (sp N) o0 (a0, a1, ()) = m0 N a0 a1 (fun a => o0 loop12 (K12 N o0) (St12 a0 a1 a)) := by kernel_rfl
theorem body12_0 (N : Nat) (o0 : Orc E R) (o1 : Orc E R) (q1 : St E → Option R) (a0 : List Int) (a1 : List Int) (v2 : Int) (v3 : Int) (v4 : List Int) (v5 : List Int) : runA T (G N) live [] o1 body12 (St12 a0 a1 (.s0 v2 v3 v4 v5)) (kloop [0, 1, 5, 7, 11, 12, 13, 14] q1 (K12 N o0)) = step12 N a0 a1 (fun a => q1 (St12 a0 a1 a)) (.s0 v2 v3 v4 v5) := by kernel_rfl
theorem body12_1 (N : Nat) (o0 : Orc E R) (o1 : Orc E R) (q1 : St E → Option R) (a0 : List Int) (a1 : List Int) (v2 : Int) (v3 : Bool) (v4 : Bool) (v5 : Int) (v6 : List Int) (v7 : List Int) : runA T (G N) live [] o1 body12 (St12 a0 a1 (.s1 v2 v3 v4 v5 v6 v7)) (kloop [0, 1, 5, 7, 11, 12, 13, 14] q1 (K12 N o0)) = step12 N a0 a1 (fun a => q1 (St12 a0 a1 a)) (.s1 v2 v3 v4 v5 v6 v7) := by kernel_rfl
theorem body12_2 (N : Nat) (o0 : Orc E R) (o1 : Orc E R) (q1 : St E → Option R) (a0 : List Int) (a1 : List Int) (v2 : Int) (v3 : Int) (v4 : List Int) (v5 : List Int) : runA T (G N) live [] o1 body12 (St12 a0 a1 (.s2 v2 v3 v4 v5)) (kloop [0, 1, 5, 7, 11, 12, 13, 14] q1 (K12 N o0)) = step12 N a0 a1 (fun a => q1 (St12 a0 a1 a)) (.s2 v2 v3 v4 v5) := by kernel_rfl
theorem body12_3 (N : Nat) (o0 : Orc E R) (o1 : Orc E R) (q1 : St E → Option R) (a0 : List Int) (a1 : List Int) (v2 : Int) (v3 : Bool) (v4 : Int) (v5 : List Int) (v6 : List Int) : runA T (G N) live [] o1 body12 (St12 a0 a1 (.s3 v2 v3 v4 v5 v6)) (kloop [0, 1, 5, 7, 11, 12, 13, 14] q1 (K12 N o0)) = step12 N a0 a1 (fun a => q1 (St12 a0 a1 a)) (.s3 v2 v3 v4 v5 v6) := by kernel_rfl
theorem body12_4 (N : Nat) (o0 : Orc E R) (o1 : Orc E R) (q1 : St E → Option R) (a0 : List Int) (a1 : List Int) (v2 : Int) (v3 : Bool) (v4 : Int) (v5 : List Int) (v6 : List Int) : runA T (G N) live [] o1 body12 (St12 a0 a1 (.s4 v2 v3 v4 v5 v6)) (kloop [0, 1, 5, 7, 11, 12, 13, 14] q1 (K12 N o0)) = step12 N a0 a1 (fun a => q1 (St12 a0 a1 a)) (.s4 v2 v3 v4 v5 v6) := by kernel_rfl
theorem lp12_eq (N : Nat) (a0 : List Int) (a1 : List Int) (a : A12) : (orc T (G N) live [] N 2) loop12 (K12 N (orc T (G N) live [] N 2)) (St12 a0 a1 a) = lp12 N a0 a1 a :=
  (orc_loop (b := body12) (live := [0, 1, 5, 7, 11, 12, 13, 14]) (by kernel_rfl)).trans (iter_eq (St12 a0 a1) _ _ (fun q1 a => by
    have hc := congrFun (congrFun (rfl : (step12 N a0 a1) = (step12 N a0 a1)) (fun a => q1 (St12 a0 a1 a))) a
    cases a with
    | s0 u0 u1 u2 u3 => exact (body12_0 N (orc T (G N) live [] N 2) (orc T (G N) live [] N 1) q1 a0 a1 u0 u1 u2 u3).trans hc
    | s1 u0 u1 u2 u3 u4 u5 => exact (body12_1 N (orc T (G N) live [] N 2) (orc T (G N) live [] N 1) q1 a0 a1 u0 u1 u2 u3 u4 u5).trans hc
    | s2 u0 u1 u2 u3 => exact (body12_2 N (orc T (G N) live [] N 2) (orc T (G N) live [] N 1) q1 a0 a1 u0 u1 u2 u3).trans hc
    | s3 u0 u1 u2 u3 u4 => exact (body12_3 N (orc T (G N) live [] N 2) (orc T (G N) live [] N 1) q1 a0 a1 u0 u1 u2 u3 u4).trans hc
    | s4 u0 u1 u2 u3 u4 => exact (body12_4 N (orc T (G N) live [] N 2) (orc T (G N) live [] N 1) q1 a0 a1 u0 u1 u2 u3 u4).trans hc) N a)
theorem G_ok (N : Nat) : GamOK Try.prog (G N) := gam_ok (l := [(27, [], spec_BytesOf.sp N), (19, [], impl_Digits.sp N), (28, [], spec_MessageOf.sp N), (18, [], spec_Digits.sp N), (29, [], laws_sameInts.sp N), (30, [], spec_HashOf.sp N), (31, [], laws_at.sp N), (17, [], impl_SecretPart.sp N), (15, [], impl_Chain.sp N), (24, [], impl_LeafKey.sp N), (23, [], spec_LeafKey.sp N)]) (⟨spec_BytesOf.snd N, impl_Digits.snd N, spec_MessageOf.snd N, spec_Digits.snd N, laws_sameInts.snd N, spec_HashOf.snd N, laws_at.snd N, impl_SecretPart.snd N, impl_Chain.snd N, impl_LeafKey.snd N, spec_LeafKey.snd N, trivial⟩)
theorem snd (N : Nat) : Sound Try.prog E 8 (sp N) :=
  Mir.sound T_OK (G_ok N) mixed Try.func8 (c := code) (by kernel_rfl) (by kernel_rfl) (sp N) (Nat.le_of_ble_eq_true (by kernel_rfl)) live [] (by
    rintro ⟨a0, a1, _⟩ r h
    exact ⟨N, 2, ((run N _ a0 a1).trans (congrArg (m0 N a0 a1) (funext fun a => lp12_eq N a0 a1 a))).trans h⟩)
end laws_FnChains
namespace impl_SignerOK
noncomputable def code : Code := Try.f34.body.getD .skip
abbrev live : Live := []
noncomputable def G (N : Nat) : Ctx E := gam [(53, [], impl_isHash.sp N)]
noncomputable def m0 (N : Nat) (a0 : Signer) : Option R :=
  ob (impl_isHash.m N ([a0.Seed])) fun y1 =>
  bif y1 then
    some (bif true then ((a0.Used.length : Int) == (4:Int)) else false)
  else
  some false
theorem run (N : Nat) (o0 : Orc E R) (a0 : Signer) : runF T (G N) live [] Try.f34 code (sp N) o0 (a0, ()) = m0 N a0 := by kernel_rfl
theorem G_ok (N : Nat) : GamOK Try.prog (G N) := gam_ok (l := [(53, [], impl_isHash.sp N)]) (⟨impl_isHash.snd N, trivial⟩)
theorem snd (N : Nat) : Sound Try.prog E 34 (sp N) :=
  Mir.sound T_OK (G_ok N) mixed Try.func34 (c := code) (by kernel_rfl) (by kernel_rfl) (sp N) (Nat.le_of_ble_eq_true (by kernel_rfl)) live [] (by
    rintro ⟨a0, _⟩ r h
    exact ⟨N, 2, ((run N _ a0).trans rfl).trans h⟩)
end impl_SignerOK
namespace slices_Clone_bool_bool
noncomputable def code : Code := Try.f72.body.getD .skip
abbrev live : Live := []
noncomputable def G (N : Nat) : Ctx E := gam []
noncomputable def m0 (N : Nat) (a0 : List Bool) : Option R :=
  amb (a0.isEmpty) true
    (some ([] : List Bool))
    (bif (room (([] : List Bool).length + a0.length) 1) then
    some (([] : List Bool) ++ a0)
    else none)
theorem run (N : Nat) (o0 : Orc E R) (a0 : List Bool) : runF T (G N) live [] Try.f72 code (sp N) o0 (a0, ()) = m0 N a0 := by kernel_rfl
theorem G_ok (N : Nat) : GamOK Try.prog (G N) := gam_ok (l := []) (trivial)
theorem snd (N : Nat) : Sound Try.prog E 72 (sp N) :=
  Mir.sound T_OK (G_ok N) mixed Try.func72 (c := code) (by kernel_rfl) (by kernel_rfl) (sp N) (Nat.le_of_ble_eq_true (by kernel_rfl)) live [] (by
    rintro ⟨a0, _⟩ r h
    exact ⟨N, 2, ((run N _ a0).trans rfl).trans h⟩)
end slices_Clone_bool_bool
namespace impl_keyLeaves
noncomputable def code : Code := Try.f67.body.getD .skip
abbrev live : Live := [(3, [0, 3, 6])]
noncomputable def G (N : Nat) : Ctx E := gam [(63, [], impl_leafKey.sp N)]
noncomputable def loop3 : Code := codeAt code [1, 1, 0, 1, 0]
noncomputable def body3 : Code := codeAt loop3 [0]
noncomputable def K3 (N : Nat) (o0 : Orc E R) : KT E R := kAt T (G N) live [] o0 code [1, 1, 0, 1, 0] (kfin T Try.f67 (sp N))
noncomputable def St3 (a0 : ByteArray) : (Int × (List ByteArray)) → St E
  | (v1, v2) => { ρ := [(0, .c (.at (.str a0))), (3, .c (.at (.own 0))), (6, .c (.at (.int .i64 v1)))], H := [(0, .row 9 .str v2 false)], nx := 1, n := 17, pin := [] }
noncomputable def m0 (N : Nat) (a0 : ByteArray) (lp3 : Int × (List ByteArray) → Option R) : Option R :=
  lp3 ((0:Int), ([] : List ByteArray))
theorem run (N : Nat) (o0 : Orc E R) (a0 : ByteArray) : runF T (G N) live [] Try.f67 code (sp N) o0 (a0, ()) = m0 N a0 (fun a => o0 loop3 (K3 N o0) (St3 a0 a)) := by kernel_rfl
theorem body3_0 (N : Nat) (o0 : Orc E R) (o1 : Orc E R) (q1 : St E → Option R) (a0 : ByteArray) (v1 : Int) (v2 : List ByteArray) : runA T (G N) live [] o1 body3 (St3 a0 (v1, v2)) (kloop [0, 3, 6] q1 (K3 N o0)) = step3 N a0 (fun a => q1 (St3 a0 a)) (v1, v2) := by kernel_rfl
theorem lp3_eq (N : Nat) (a0 : ByteArray) (a : Int × (List ByteArray)) : (orc T (G N) live [] N 2) loop3 (K3 N (orc T (G N) live [] N 2)) (St3 a0 a) = lp3 N a0 a :=
  (orc_loop (b := body3) (live := [0, 3, 6]) (by kernel_rfl)).trans (iter_eq (St3 a0) _ _ (fun q1 a => by
    have hc := congrFun (congrFun (rfl : (step3 N a0) = (step3 N a0)) (fun a => q1 (St3 a0 a))) a
    obtain ⟨u0, u1⟩ := a
    exact (body3_0 N (orc T (G N) live [] N 2) (orc T (G N) live [] N 1) q1 a0 u0 u1).trans hc) N a)
theorem G_ok (N : Nat) : GamOK Try.prog (G N) := gam_ok (l := [(63, [], impl_leafKey.sp N)]) (⟨impl_leafKey.snd N, trivial⟩)
theorem snd (N : Nat) : Sound Try.prog E 67 (sp N) :=
  Mir.sound T_OK (G_ok N) mixed Try.func67 (c := code) (by kernel_rfl) (by kernel_rfl) (sp N) (Nat.le_of_ble_eq_true (by kernel_rfl)) live [] (by
    rintro ⟨a0, _⟩ r h
    exact ⟨N, 2, ((run N _ a0).trans (congrArg (m0 N a0) (funext fun a => lp3_eq N a0 a))).trans h⟩)
end impl_keyLeaves
namespace impl_split
noncomputable def code : Code := Try.f101.body.getD .skip
abbrev live : Live := [(2, [0, 3])]
noncomputable def G (N : Nat) : Ctx E := gam []
noncomputable def loop2 : Code := codeAt code [1, 1, 0, 0]
noncomputable def body2 : Code := codeAt loop2 [0]
noncomputable def K2 (N : Nat) (o0 : Orc E R) : KT E R := kAt T (G N) live [] o0 code [1, 1, 0, 0] (kfin T Try.f101 (sp N))
noncomputable def St2 (a0 : Int) : Int → St E
  | v1 => { ρ := [(0, .c (.at (.int .i64 a0))), (3, .c (.at (.int .i64 v1)))], H := [], nx := 0, n := 11, pin := [] }
noncomputable def m0 (N : Nat) (a0 : Int) (lp2 : Int → Option R) : Option R :=
  lp2 (1:Int)
theorem run (N : Nat) (o0 : Orc E R) (a0 : Int) : runF T (G N) live [] Try.f101 code (sp N) o0 (a0, ()) = m0 N a0 (fun a => o0 loop2 (K2 N o0) (St2 a0 a)) := by kernel_rfl
theorem body2_0 (N : Nat) (o0 : Orc E R) (o1 : Orc E R) (q1 : St E → Option R) (a0 : Int) (v1 : Int) : runA T (G N) live [] o1 body2 (St2 a0 v1) (kloop [0, 3] q1 (K2 N o0)) = step2 N a0 (fun a => q1 (St2 a0 a)) v1 := by kernel_rfl
theorem lp2_eq (N : Nat) (a0 : Int) (a : Int) : (orc T (G N) live [] N 2) loop2 (K2 N (orc T (G N) live [] N 2)) (St2 a0 a) = lp2 N a0 a :=
  (orc_loop (b := body2) (live := [0, 3]) (by kernel_rfl)).trans (iter_eq (St2 a0) _ _ (fun q1 a => by
    have hc := congrFun (congrFun (rfl : (step2 N a0) = (step2 N a0)) (fun a => q1 (St2 a0 a))) a
    exact (body2_0 N (orc T (G N) live [] N 2) (orc T (G N) live [] N 1) q1 a0 a).trans hc) N a)
theorem G_ok (N : Nat) : GamOK Try.prog (G N) := gam_ok (l := []) (trivial)
theorem snd (N : Nat) : Sound Try.prog E 101 (sp N) :=
  Mir.sound T_OK (G_ok N) mixed Try.func101 (c := code) (by kernel_rfl) (by kernel_rfl) (sp N) (Nat.le_of_ble_eq_true (by kernel_rfl)) live [] (by
    rintro ⟨a0, _⟩ r h
    exact ⟨N, 2, ((run N _ a0).trans (congrArg (m0 N a0) (funext fun a => lp2_eq N a0 a))).trans h⟩)
end impl_split
namespace impl_nodeHash
noncomputable def code : Code := Try.f102.body.getD .skip
abbrev live : Live := []
noncomputable def G (N : Nat) : Ctx E := gam [(95, [], impl_hash.sp N)]
noncomputable def m0 (N : Nat) (a0 : ByteArray) (a1 : ByteArray) : Option R :=
  bif (decide ((⟨#[1]⟩ : ByteArray).size + a0.size ≤ 9223372036854775807)) then
  bif (decide (((⟨#[1]⟩ : ByteArray) ++ a0).size + a1.size ≤ 9223372036854775807)) then
  ob (impl_hash.m N (((⟨#[1]⟩ : ByteArray) ++ a0) ++ a1)) fun y1 =>
  some y1
  else none
  else none
theorem run (N : Nat) (o0 : Orc E R) (a0 : ByteArray) (a1 : ByteArray) : runF T (G N) live [] Try.f102 code (sp N) o0 (a0, a1, ()) = m0 N a0 a1 := by kernel_rfl
theorem G_ok (N : Nat) : GamOK Try.prog (G N) := gam_ok (l := [(95, [], impl_hash.sp N)]) (⟨impl_hash.snd N, trivial⟩)
theorem snd (N : Nat) : Sound Try.prog E 102 (sp N) :=
  Mir.sound T_OK (G_ok N) mixed Try.func102 (c := code) (by kernel_rfl) (by kernel_rfl) (sp N) (Nat.le_of_ble_eq_true (by kernel_rfl)) live [] (by
    rintro ⟨a0, a1, _⟩ r h
    exact ⟨N, 2, ((run N _ a0 a1).trans rfl).trans h⟩)
end impl_nodeHash
namespace impl_treeHash
noncomputable def code : Code := Try.f66.body.getD .skip
abbrev live : Live := []
noncomputable def G (N : Nat) (slf : (List ByteArray) → Option R) : Ctx E := gam [(95, [], impl_hash.sp N), (101, [], impl_split.sp N), (66, [], spf slf), (102, [], impl_nodeHash.sp N)]
noncomputable def m0 (N : Nat) (slf : (List ByteArray) → Option R) (a0 : List ByteArray) : Option R :=
  bif ((a0.length : Int) == (0:Int)) then
    ob (impl_hash.m N ByteArray.empty) fun y1 =>
    some y1
  else
  bif ((a0.length : Int) == (1:Int)) then
    bif (decide (0 ≤ (0:Int))) then
    bif (decide ((0:Int) < (a0.length : Int))) then
    some (a0.getD 0 ByteArray.empty)
    else none
    else none
  else
  ob (impl_split.m N (a0.length : Int)) fun y2 =>
  bif (decide (0 ≤ y2)) then
  bif (decide (y2 ≤ ((a0.length : Nat) : Int))) then
  ob (slf (a0.take (Int.toNat y2))) fun y3 =>
  bif (decide (0 ≤ y2)) then
  bif (decide (y2 ≤ ((a0.length : Nat) : Int))) then
  ob (slf (a0.drop (Int.toNat y2))) fun y4 =>
  ob (impl_nodeHash.m N y3 y4) fun y5 =>
  some y5
  else none
  else none
  else none
  else none
theorem run (N : Nat) (o0 : Orc E R) (slf : (List ByteArray) → Option R) (a0 : List ByteArray) : runF T (G N slf) live [] Try.f66 code (spf (mb N slf)) o0 (a0, ()) = m0 N slf a0 := by kernel_rfl
theorem G_ok (N : Nat) (slf : (List ByteArray) → Option R) (hs : Sound Try.prog E 66 (spf slf)) : GamOK Try.prog (G N slf) := gam_ok (l := [(95, [], impl_hash.sp N), (101, [], impl_split.sp N), (66, [], spf slf), (102, [], impl_nodeHash.sp N)]) (⟨impl_hash.snd N, impl_split.snd N, hs, impl_nodeHash.snd N, trivial⟩)
theorem sndF (N : Nat) : ∀ n, Sound Try.prog E 66 (spf (mF N n))
  | 0 => sound_none Try.func66 (c := code) (by kernel_rfl) (by kernel_rfl) (spf (mF N 0)) (fun _ => rfl)
  | n + 1 => by
    have hr := fun (a0 : List ByteArray) => (run N (orc T (G N (mF N n)) live [] N 2) (mF N n) a0).trans rfl
    exact Mir.sound T_OK (G_ok N (mF N n) (sndF N n)) mixed Try.func66 (c := code) (by kernel_rfl) (by kernel_rfl) (spf (mF N (n + 1))) (Nat.le_of_ble_eq_true (by kernel_rfl)) live [] (by
      rintro ⟨a0, _⟩ r h
      exact ⟨N, 2, (hr a0).trans h⟩)
theorem snd (N : Nat) : Sound Try.prog E 66 (sp N) := sndF N N
end impl_treeHash
end Mir.Y
