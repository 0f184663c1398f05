/- The models are what the functions do. -/
import Derived.Test.YtohcahijaoemjaaFM3
import Derived.Test.YtohcahijaoemjaaFLays
namespace Mir.Y
set_option linter.unusedVariables false
set_option maxRecDepth 10000
open Go Go.Proofs Mir
namespace spec_l00Source
noncomputable def code : Code := Try.f68.body.getD .skip
abbrev live : Live := []
noncomputable def G (N : Nat) : Ctx E := gam []
noncomputable def m0 (N : Nat) (a0 : List Int) : Option R :=
  bif (!decide ((1000:Int) = 0)) then
  some (l00Src.mk a0 (0:Int) (Int.tmod (a0.length : Int) (1000:Int)))
  else none
theorem run (N : Nat) (o0 : Orc E R) (a0 : List Int) : runF T (G N) live [] Try.f68 code (sp N) o0 (a0, ()) = m0 N a0 := by kernel_rfl
theorem G_ok (N : Nat) : GamOK Try.prog (G N) := gam_ok (l := []) (trivial)
theorem snd (N : Nat) : Sound Try.prog E 68 (sp N) :=
  Mir.sound T_OK (G_ok N) mixed Try.func68 (c := code) (by kernel_rfl) (by kernel_rfl) (sp N) (Nat.le_of_ble_eq_true (by kernel_rfl)) live [] (by
    rintro ⟨a0, _⟩ r h
    exact ⟨N, 2, ((run N _ a0).trans rfl).trans h⟩)
end spec_l00Source
namespace spec_l00Src_byte_
noncomputable def code : Code := Try.f117.body.getD .skip
abbrev live : Live := []
noncomputable def G (N : Nat) : Ctx E := gam []
noncomputable def m0 (N : Nat) (a0 : l00Src) : Option R :=
  bif (decide ((w64 (a0.«at» + (1:Int))) ≤ (a0.code.length : Int))) then
    bif (decide (0 ≤ (w64 ((w64 (a0.«at» + (1:Int))) - (1:Int))))) then
    bif (decide ((w64 ((w64 (a0.«at» + (1:Int))) - (1:Int))) < (a0.code.length : Int))) then
    bif (!decide ((2147483648:Int) = 0)) then
    (let w1 : Int := (Int.tmod (w64 ((w64 ((w64 (a0.seed * (31:Int))) + (w64 (a0.code.getD (Int.toNat (w64 ((w64 (a0.«at» + (1:Int))) - (1:Int)))) (0:Int))))) + (7:Int))) (2147483648:Int))
    bif (decide (0 ≤ (w64 ((w64 (a0.«at» + (1:Int))) - (1:Int))))) then
    bif (decide ((w64 ((w64 (a0.«at» + (1:Int))) - (1:Int))) < (a0.code.length : Int))) then
    some ((w64 (a0.code.getD (Int.toNat (w64 ((w64 (a0.«at» + (1:Int))) - (1:Int)))) (0:Int))), (l00Src.mk a0.code (w64 (a0.«at» + (1:Int))) w1))
    else none
    else none)
    else none
    else none
    else none
  else
  bif (decide ((w64 (a0.«at» + (1:Int))) > (3000:Int))) then
    some ((0:Int), (l00Src.mk a0.code (w64 (a0.«at» + (1:Int))) a0.seed))
  else
  bif (!decide ((2147483648:Int) = 0)) then
  bif (!decide ((65536:Int) = 0)) then
  bif (!decide ((256:Int) = 0)) then
  some ((Int.tmod (w64 (Int.tdiv (Int.tmod (w64 ((w64 (a0.seed * (1103515245:Int))) + (12345:Int))) (2147483648:Int)) (65536:Int))) (256:Int)), (l00Src.mk a0.code (w64 (a0.«at» + (1:Int))) (Int.tmod (w64 ((w64 (a0.seed * (1103515245:Int))) + (12345:Int))) (2147483648:Int))))
  else none
  else none
  else none
theorem run (N : Nat) (o0 : Orc E R) (a0 : l00Src) : runF T (G N) live [] Try.f117 code (sp N) o0 (a0, ()) = m0 N a0 := by kernel_rfl
theorem G_ok (N : Nat) : GamOK Try.prog (G N) := gam_ok (l := []) (trivial)
theorem snd (N : Nat) : Sound Try.prog E 117 (sp N) :=
  Mir.sound T_OK (G_ok N) mixed Try.func117 (c := code) (by kernel_rfl) (by kernel_rfl) (sp N) (Nat.le_of_ble_eq_true (by kernel_rfl)) live [] (by
    rintro ⟨a0, _⟩ r h
    exact ⟨N, 2, ((run N _ a0).trans rfl).trans h⟩)
end spec_l00Src_byte_
namespace spec_l00Src_next_
noncomputable def code : Code := Try.f103.body.getD .skip
abbrev live : Live := []
noncomputable def G (N : Nat) : Ctx E := gam [(117, [], spec_l00Src_byte_.sp N)]
noncomputable def m0 (N : Nat) (a0 : l00Src) (a1 : Int) : Option R :=
  bif (decide (a1 ≤ (1:Int))) then
    some ((0:Int), a0)
  else
  bif (decide (a1 ≤ (256:Int))) then
    ob (spec_l00Src_byte_.m N a0) fun y1 =>
    bif (!decide (a1 = 0)) then
    some ((Int.tmod y1.1 a1), y1.2)
    else none
  else
  ob (spec_l00Src_byte_.m N a0) fun y2 =>
  ob (spec_l00Src_byte_.m N y2.2) fun y3 =>
  ob (spec_l00Src_byte_.m N y3.2) fun y4 =>
  bif (!decide (a1 = 0)) then
  some ((Int.tmod (w64 ((w64 ((w64 (y2.1 * (65536:Int))) + (w64 (y3.1 * (256:Int))))) + y4.1)) a1), y4.2)
  else none
theorem run (N : Nat) (o0 : Orc E R) (a0 : l00Src) (a1 : Int) : runF T (G N) live [] Try.f103 code (sp N) o0 (a0, a1, ()) = m0 N a0 a1 := by kernel_rfl
theorem G_ok (N : Nat) : GamOK Try.prog (G N) := gam_ok (l := [(117, [], spec_l00Src_byte_.sp N)]) (⟨spec_l00Src_byte_.snd N, trivial⟩)
theorem snd (N : Nat) : Sound Try.prog E 103 (sp N) :=
  Mir.sound T_OK (G_ok N) mixed Try.func103 (c := code) (by kernel_rfl) (by kernel_rfl) (sp N) (Nat.le_of_ble_eq_true (by kernel_rfl)) live [] (by
    rintro ⟨a0, a1, _⟩ r h
    exact ⟨N, 2, ((run N _ a0 a1).trans rfl).trans h⟩)
end spec_l00Src_next_
namespace spec_l00Src_bytes
noncomputable def code : Code := Try.f69.body.getD .skip
abbrev live : Live := [(3, [0, 5, 6])]
noncomputable def G (N : Nat) : Ctx E := gam [(103, [], spec_l00Src_next_.sp N)]
noncomputable def loop3 : Code := codeAt code [1, 1, 0, 1, 0]
noncomputable def body3 : Code := codeAt loop3 [0]
noncomputable def K3 (N : Nat) (o0 : Orc E R) : KT E R := kAt T (G N) live [] o0 code [1, 1, 0, 1, 0] (kfin T Try.f69 (sp N))
noncomputable def St3 (a0 : l00Src) (a1 : Int) : (Int × (List Int) × Int × Int × (List Int)) → St E
  | (v0, v1, v2, v3, v4) => { ρ := [(0, .c (.at (.ptr 0 0))), (5, .c (.at (.own 1))), (6, .c (.at (.int .i64 v0)))], H := [(0, .box 96 [.ro 5 (.int .u8) v1, .int .i64 v2, .int .i64 v3]), (1, .row 5 (.int .u8) v4 false)], nx := 2, n := 23, pin := [0] }
noncomputable def m0 (N : Nat) (a0 : l00Src) (a1 : Int) (lp3 : Int × (List Int) × Int × Int × (List Int) → Option R) : Option R :=
  ob (spec_l00Src_next_.m N a0 (w64 (a1 + (1:Int)))) fun y1 =>
  lp3 (y1.1, y1.2.code, y1.2.«at», y1.2.seed, ([] : List Int))
theorem run (N : Nat) (o0 : Orc E R) (a0 : l00Src) (a1 : Int) : runF T (G N) live [] Try.f69 code (sp N) o0 (a0, a1, ()) = m0 N a0 a1 (fun a => o0 loop3 (K3 N o0) (St3 a0 a1 a)) := by kernel_rfl
theorem body3_0 (N : Nat) (o0 : Orc E R) (o1 : Orc E R) (q1 : St E → Option R) (a0 : l00Src) (a1 : Int) (v0 : Int) (v1 : List Int) (v2 : Int) (v3 : Int) (v4 : List Int) : runA T (G N) live [] o1 body3 (St3 a0 a1 (v0, v1, v2, v3, v4)) (kloop [0, 5, 6] q1 (K3 N o0)) = step3 N a0 a1 (fun a => q1 (St3 a0 a1 a)) (v0, v1, v2, v3, v4) := by kernel_rfl
theorem lp3_eq (N : Nat) (a0 : l00Src) (a1 : Int) (a : Int × (List Int) × Int × Int × (List Int)) : (orc T (G N) live [] N 2) loop3 (K3 N (orc T (G N) live [] N 2)) (St3 a0 a1 a) = lp3 N a0 a1 a :=
  (orc_loop (b := body3) (live := [0, 5, 6]) (by kernel_rfl)).trans (iter_eq (St3 a0 a1) _ _ (fun q1 a => by
    have hc := congrFun (congrFun (rfl : (step3 N a0 a1) = (step3 N a0 a1)) (fun a => q1 (St3 a0 a1 a))) a
    obtain ⟨u0, u1, u2, u3, u4⟩ := a
    exact (body3_0 N (orc T (G N) live [] N 2) (orc T (G N) live [] N 1) q1 a0 a1 u0 u1 u2 u3 u4).trans hc) N a)
theorem G_ok (N : Nat) : GamOK Try.prog (G N) := gam_ok (l := [(103, [], spec_l00Src_next_.sp N)]) (⟨spec_l00Src_next_.snd N, trivial⟩)
theorem snd (N : Nat) : Sound Try.prog E 69 (sp N) :=
  Mir.sound T_OK (G_ok N) mixed Try.func69 (c := code) (by kernel_rfl) (by kernel_rfl) (sp N) (Nat.le_of_ble_eq_true (by kernel_rfl)) live [] (by
    rintro ⟨a0, a1, _⟩ r h
    exact ⟨N, 2, ((run N _ a0 a1).trans (congrArg (m0 N a0 a1) (funext fun a => lp3_eq N a0 a1 a))).trans h⟩)
end spec_l00Src_bytes
namespace spec_BytesOf
noncomputable def code : Code := Try.f27.body.getD .skip
abbrev live : Live := []
noncomputable def G (N : Nat) : Ctx E := gam [(68, [], spec_l00Source.sp N), (69, [], spec_l00Src_bytes.sp N)]
noncomputable def m0 (N : Nat) (a0 : List Int) (a1 : Int) : Option R :=
  ob (spec_l00Source.m N a0) fun y1 =>
  ob (spec_l00Src_bytes.m N y1 a1) fun y2 =>
  some y2.1
theorem run (N : Nat) (o0 : Orc E R) (a0 : List Int) (a1 : Int) : runF T (G N) live [] Try.f27 code (sp N) o0 (a0, a1, ()) = m0 N a0 a1 := by kernel_rfl
theorem G_ok (N : Nat) : GamOK Try.prog (G N) := gam_ok (l := [(68, [], spec_l00Source.sp N), (69, [], spec_l00Src_bytes.sp N)]) (⟨spec_l00Source.snd N, spec_l00Src_bytes.snd N, trivial⟩)
theorem snd (N : Nat) : Sound Try.prog E 27 (sp N) :=
  Mir.sound T_OK (G_ok N) mixed Try.func27 (c := code) (by kernel_rfl) (by kernel_rfl) (sp N) (Nat.le_of_ble_eq_true (by kernel_rfl)) live [] (by
    rintro ⟨a0, a1, _⟩ r h
    exact ⟨N, 2, ((run N _ a0 a1).trans rfl).trans h⟩)
end spec_BytesOf
namespace impl_isText_1
noncomputable def code : Code := Try.f93.body.getD .skip
abbrev live : Live := []
noncomputable def G (N : Nat) : Ctx E := gam []
noncomputable def m0 (N : Nat) (a0 : ByteArray) : Option R :=
  some (decide ((a0.size : Int) > (65536:Int)))
theorem run (N : Nat) (o0 : Orc E R) (a0 : ByteArray) : runF T (G N) live [] Try.f93 code (sp N) o0 (a0, ()) = m0 N a0 := by kernel_rfl
theorem G_ok (N : Nat) : GamOK Try.prog (G N) := gam_ok (l := []) (trivial)
theorem snd (N : Nat) : Sound Try.prog E 93 (sp N) :=
  Mir.sound T_OK (G_ok N) mixed Try.func93 (c := code) (by kernel_rfl) (by kernel_rfl) (sp N) (Nat.le_of_ble_eq_true (by kernel_rfl)) live [] (by
    rintro ⟨a0, _⟩ r h
    exact ⟨N, 2, ((run N _ a0).trans rfl).trans h⟩)
end impl_isText_1
namespace slices_IndexFunc_string_string__impl_isText_1
noncomputable def code : Code := Try.f112.body.getD .skip
abbrev live : Live := [(2, [0, 1, 7, 8])]
noncomputable def G (N : Nat) : Ctx E := gam [(93, [], impl_isText_1.sp N)]
noncomputable def loop2 : Code := codeAt code [1, 0, 1, 0]
noncomputable def body2 : Code := codeAt loop2 [0]
noncomputable def K2 (N : Nat) (o0 : Orc E R) : KT E R := kAt T (G N) live [] o0 code [1, 0, 1, 0] (kfin T Try.f112 (sp N))
noncomputable def St2 (a0 : List ByteArray) : (Int × Int) → St E
  | (v1, v2) => { ρ := [(0, .c (.at (.ro 9 .str a0))), (1, .clo 93 []), (7, .c (.at (.int .i64 v1))), (8, .c (.at (.int .i64 v2)))], H := [], nx := 0, n := 19, pin := [] }
noncomputable def m0 (N : Nat) (a0 : List ByteArray) (lp2 : Int × Int → Option R) : Option R :=
  lp2 ((a0.length : Int), (0:Int))
theorem run (N : Nat) (o0 : Orc E R) (a0 : List ByteArray) : runF T (G N) live [] Try.f112 code (sp N) o0 (a0, (), ()) = m0 N a0 (fun a => o0 loop2 (K2 N o0) (St2 a0 a)) := by kernel_rfl
theorem body2_0 (N : Nat) (o0 : Orc E R) (o1 : Orc E R) (q1 : St E → Option R) (a0 : List ByteArray) (v1 : Int) (v2 : Int) : runA T (G N) live [] o1 body2 (St2 a0 (v1, v2)) (kloop [0, 1, 7, 8] q1 (K2 N o0)) = step2 N a0 (fun a => q1 (St2 a0 a)) (v1, v2) := by kernel_rfl
theorem lp2_eq (N : Nat) (a0 : List ByteArray) (a : Int × Int) : (orc T (G N) live [] N 2) loop2 (K2 N (orc T (G N) live [] N 2)) (St2 a0 a) = lp2 N a0 a :=
  (orc_loop (b := body2) (live := [0, 1, 7, 8]) (by kernel_rfl)).trans (iter_eq (St2 a0) _ _ (fun q1 a => by
    have hc := congrFun (congrFun (rfl : (step2 N a0) = (step2 N a0)) (fun a => q1 (St2 a0 a))) a
    obtain ⟨u0, u1⟩ := a
    exact (body2_0 N (orc T (G N) live [] N 2) (orc T (G N) live [] N 1) q1 a0 u0 u1).trans hc) N a)
theorem G_ok (N : Nat) : GamOK Try.prog (G N) := gam_ok (l := [(93, [], impl_isText_1.sp N)]) (⟨impl_isText_1.snd N, trivial⟩)
theorem snd (N : Nat) : Sound Try.prog E 112 (sp N) :=
  Mir.sound T_OK (G_ok N) mixed Try.func112 (c := code) (by kernel_rfl) (by kernel_rfl) (sp N) (Nat.le_of_ble_eq_true (by kernel_rfl)) live [] (by
    rintro ⟨a0, _, _⟩ r h
    exact ⟨N, 2, ((run N _ a0).trans (congrArg (m0 N a0) (funext fun a => lp2_eq N a0 a))).trans h⟩)
end slices_IndexFunc_string_string__impl_isText_1
namespace slices_ContainsFunc_string_string__impl_isText_1
noncomputable def code : Code := Try.f92.body.getD .skip
abbrev live : Live := []
noncomputable def G (N : Nat) : Ctx E := gam [(112, [93], slices_IndexFunc_string_string__impl_isText_1.sp N)]
noncomputable def m0 (N : Nat) (a0 : List ByteArray) : Option R :=
  ob (slices_IndexFunc_string_string__impl_isText_1.m N a0) fun y1 =>
  some (decide (y1 ≥ (0:Int)))
theorem run (N : Nat) (o0 : Orc E R) (a0 : List ByteArray) : runF T (G N) live [] Try.f92 code (sp N) o0 (a0, (), ()) = m0 N a0 := by kernel_rfl
theorem G_ok (N : Nat) : GamOK Try.prog (G N) := gam_ok (l := [(112, [93], slices_IndexFunc_string_string__impl_isText_1.sp N)]) (⟨slices_IndexFunc_string_string__impl_isText_1.snd N, trivial⟩)
theorem snd (N : Nat) : Sound Try.prog E 92 (sp N) :=
  Mir.sound T_OK (G_ok N) mixed Try.func92 (c := code) (by kernel_rfl) (by kernel_rfl) (sp N) (Nat.le_of_ble_eq_true (by kernel_rfl)) live [] (by
    rintro ⟨a0, _, _⟩ r h
    exact ⟨N, 2, ((run N _ a0).trans rfl).trans h⟩)
end slices_ContainsFunc_string_string__impl_isText_1
namespace impl_isText
noncomputable def code : Code := Try.f52.body.getD .skip
abbrev live : Live := []
noncomputable def G (N : Nat) : Ctx E := gam [(92, [93], slices_ContainsFunc_string_string__impl_isText_1.sp N)]
noncomputable def m0 (N : Nat) (a0 : List ByteArray) : Option R :=
  ob (slices_ContainsFunc_string_string__impl_isText_1.m N a0) fun y1 =>
  some (!y1)
theorem run (N : Nat) (o0 : Orc E R) (a0 : List ByteArray) : runF T (G N) live [] Try.f52 code (sp N) o0 (a0, ()) = m0 N a0 := by kernel_rfl
theorem G_ok (N : Nat) : GamOK Try.prog (G N) := gam_ok (l := [(92, [93], slices_ContainsFunc_string_string__impl_isText_1.sp N)]) (⟨slices_ContainsFunc_string_string__impl_isText_1.snd N, trivial⟩)
theorem snd (N : Nat) : Sound Try.prog E 52 (sp N) :=
  Mir.sound T_OK (G_ok N) mixed Try.func52 (c := code) (by kernel_rfl) (by kernel_rfl) (sp N) (Nat.le_of_ble_eq_true (by kernel_rfl)) live [] (by
    rintro ⟨a0, _⟩ r h
    exact ⟨N, 2, ((run N _ a0).trans rfl).trans h⟩)
end impl_isText
namespace strings_Repeat
theorem repeatL_eq (l : List UInt8) : ∀ n, Go.Lib.repeatL l n = (List.replicate n l).flatten
  | 0 => rfl
  | n + 1 => by rw [List.replicate_succ, List.flatten_cons, ← repeatL_eq l n]; rfl
theorem str_of {W : World} {F : Nat → Prop} {s : ByteArray} {v : Value} (h : RoV E W F .str s v) : v = .string s := by
  obtain ⟨d, h⟩ := h; cases d <;> exact h
theorem int_of {W : World} {F : Nat → Prop} {k : IntKind} {n : Int} {v : Value} (h : RoV E W F (.int k) n v) : v = .int k n := by
  obtain ⟨d, h⟩ := h; cases d <;> exact h
theorem snd (N : Nat) : Sound Try.prog E 113 (sp N) := by
  refine ⟨fun args W => run_callFunc_go Try.func113 (c := Try.f113.body.getD .skip) (by kernel_rfl) (by kernel_rfl) args W, ?_⟩
  rintro W F ⟨a0, a1, _⟩ r args fp hfn ⟨v, vs, f1, f2, rfl, rfl, ⟨h0, rfl⟩, ⟨w, ws, g1, g2, rfl, rfl, ⟨h1, rfl⟩, ⟨rfl, rfl⟩⟩⟩ _ _ hF
  obtain rfl := str_of h0
  obtain rfl := int_of h1
  have hfn : (bif decide (0 ≤ a1) && decide (a1 ≤ 9223372036854775807) && decide (a0.size * a1.toNat ≤ 140737488355328) then some (rep a0 a1.toNat) else none) = some r := hfn
  cases hc : decide (0 ≤ a1) && decide (a1 ≤ 9223372036854775807) && decide (a0.size * a1.toNat ≤ 140737488355328) with
  | false => rw [hc] at hfn; cases hfn
  | true =>
    rw [hc, cond_true] at hfn
    cases hfn
    simp only [Bool.and_eq_true, decide_eq_true_eq] at hc
    obtain ⟨⟨c1, c2⟩, c3⟩ := hc
    obtain ⟨n, rfl⟩ := Int.eq_ofNat_of_zero_le c1
    have c2 : (n : Int) ≤ 9223372036854775807 := c2
    have c3 : a0.size * n ≤ 140737488355328 := c3
    have hcall := Go.Proofs.Any.strings_Repeat Try.repLays Try.repExtra a0 n W (by omega) c3
    refine (show Calls Try.prog 113 #[.string a0, .int .i64 n] W _ from hcall).mono ?_
    rintro e W' ⟨rfl, hb⟩
    refine ⟨_, rfl, ⟨F, [.string (rep a0 n)], [], [], ?_, fun b h => h, fun b h => ⟨.inl h, Nat.lt_of_lt_of_le (hF b h) hb.size⟩, ⟨_, [], [], [], rfl, rfl, ⟨rfl, rfl⟩, ⟨rfl, rfl⟩⟩, ⟨_, _, [], [], rfl, rfl, rfl, ⟨_, _, [], [], rfl, rfl, rfl, ⟨rfl, rfl⟩⟩⟩, List.nodup_nil, fun b h => by cases h⟩, hb.os, hb.tape, hb.output, hb.size, fun b h _ => hb.block b h⟩
    rw [repeatL_eq]; rfl
end strings_Repeat
namespace impl_number
noncomputable def code : Code := Try.f96.body.getD .skip
abbrev live : Live := [(3, [0, 5, 6])]
noncomputable def G (N : Nat) : Ctx E := gam []
noncomputable def loop3 : Code := codeAt code [1, 1, 0, 1, 0]
noncomputable def body3 : Code := codeAt loop3 [0]
noncomputable def K3 (N : Nat) (o0 : Orc E R) : KT E R := kAt T (G N) live [] o0 code [1, 1, 0, 1, 0] (kfin T Try.f96 (sp N))
noncomputable def St3 (a0 : Int) (a1 : Int) : (Int × Int × (List Int)) → St E
  | (v0, v1, v2) => { ρ := [(0, .c (.at (.int .i64 v0))), (5, .c (.at (.own 0))), (6, .c (.at (.int .i64 v1)))], H := [(0, .row 5 (.int .u8) v2 false)], nx := 1, n := 24, pin := [] }
noncomputable def m0 (N : Nat) (a0 : Int) (a1 : Int) (lp3 : Int × Int × (List Int) → Option R) : Option R :=
  bif (decide (0 ≤ a1)) then
  bif (room (Int.toNat a1) 1) then
  lp3 (a0, (w64 (a1 - (1:Int))), (List.replicate (Int.toNat a1) (0:Int)))
  else none
  else none
theorem run (N : Nat) (o0 : Orc E R) (a0 : Int) (a1 : Int) : runF T (G N) live [] Try.f96 code (sp N) o0 (a0, a1, ()) = m0 N a0 a1 (fun a => o0 loop3 (K3 N o0) (St3 a0 a1 a)) := by kernel_rfl
theorem body3_0 (N : Nat) (o0 : Orc E R) (o1 : Orc E R) (q1 : St E → Option R) (a0 : Int) (a1 : Int) (v0 : Int) (v1 : Int) (v2 : List Int) : runA T (G N) live [] o1 body3 (St3 a0 a1 (v0, v1, v2)) (kloop [0, 5, 6] q1 (K3 N o0)) = step3 N a0 a1 (fun a => q1 (St3 a0 a1 a)) (v0, v1, v2) := by kernel_rfl
theorem lp3_eq (N : Nat) (a0 : Int) (a1 : Int) (a : Int × Int × (List Int)) : (orc T (G N) live [] N 2) loop3 (K3 N (orc T (G N) live [] N 2)) (St3 a0 a1 a) = lp3 N a0 a1 a :=
  (orc_loop (b := body3) (live := [0, 5, 6]) (by kernel_rfl)).trans (iter_eq (St3 a0 a1) _ _ (fun q1 a => by
    have hc := congrFun (congrFun (rfl : (step3 N a0 a1) = (step3 N a0 a1)) (fun a => q1 (St3 a0 a1 a))) a
    obtain ⟨u0, u1, u2⟩ := a
    exact (body3_0 N (orc T (G N) live [] N 2) (orc T (G N) live [] N 1) q1 a0 a1 u0 u1 u2).trans hc) N a)
theorem G_ok (N : Nat) : GamOK Try.prog (G N) := gam_ok (l := []) (trivial)
theorem snd (N : Nat) : Sound Try.prog E 96 (sp N) :=
  Mir.sound T_OK (G_ok N) mixed Try.func96 (c := code) (by kernel_rfl) (by kernel_rfl) (sp N) (Nat.le_of_ble_eq_true (by kernel_rfl)) live [] (by
    rintro ⟨a0, a1, _⟩ r h
    exact ⟨N, 2, ((run N _ a0 a1).trans (congrArg (m0 N a0 a1) (funext fun a => lp3_eq N a0 a1 a))).trans h⟩)
end impl_number
namespace impl_hashWords
noncomputable def code : Code := Try.f114.body.getD .skip
abbrev live : Live := []
noncomputable def G (N : Nat) : Ctx E := gam []
noncomputable def m0 (N : Nat) : Option R :=
  (let w1 : List Int := [(1779033703:Int), (3144134277:Int), (1013904242:Int), (2773480762:Int), (1359893119:Int), (2600822924:Int), (528734635:Int), (1541459225:Int)]
  some w1)
theorem run (N : Nat) (o0 : Orc E R) : runF T (G N) live [] Try.f114 code (sp N) o0 () = m0 N := by kernel_rfl
theorem G_ok (N : Nat) : GamOK Try.prog (G N) := gam_ok (l := []) (trivial)
theorem snd (N : Nat) : Sound Try.prog E 114 (sp N) :=
  Mir.sound T_OK (G_ok N) mixed Try.func114 (c := code) (by kernel_rfl) (by kernel_rfl) (sp N) (Nat.le_of_ble_eq_true (by kernel_rfl)) live [] (by
    rintro _ r h
    exact ⟨N, 2, ((run N _).trans rfl).trans h⟩)
end impl_hashWords
namespace impl_roundWords
noncomputable def code : Code := Try.f115.body.getD .skip
abbrev live : Live := []
noncomputable def G (N : Nat) : Ctx E := gam []
noncomputable def m0 (N : Nat) : Option R :=
  (let w1 : List Int := [(1116352408:Int), (1899447441:Int), (3049323471:Int), (3921009573:Int), (961987163:Int), (1508970993:Int), (2453635748:Int), (2870763221:Int), (3624381080:Int), (310598401:Int), (607225278:Int), (1426881987:Int), (1925078388:Int), (2162078206:Int), (2614888103:Int), (3248222580:Int), (3835390401:Int), (4022224774:Int), (264347078:Int), (604807628:Int), (770255983:Int), (1249150122:Int), (1555081692:Int), (1996064986:Int), (2554220882:Int), (2821834349:Int), (2952996808:Int), (3210313671:Int), (3336571891:Int), (3584528711:Int), (113926993:Int), (338241895:Int), (666307205:Int), (773529912:Int), (1294757372:Int), (1396182291:Int), (1695183700:Int), (1986661051:Int), (2177026350:Int), (2456956037:Int), (2730485921:Int), (2820302411:Int), (3259730800:Int), (3345764771:Int), (3516065817:Int), (3600352804:Int), (4094571909:Int), (275423344:Int), (430227734:Int), (506948616:Int), (659060556:Int), (883997877:Int), (958139571:Int), (1322822218:Int), (1537002063:Int), (1747873779:Int), (1955562222:Int), (2024104815:Int), (2227730452:Int), (2361852424:Int), (2428436474:Int), (2756734187:Int), (3204031479:Int), (3329325298:Int)]
  some w1)
theorem run (N : Nat) (o0 : Orc E R) : runF T (G N) live [] Try.f115 code (sp N) o0 () = m0 N := by kernel_rfl
theorem G_ok (N : Nat) : GamOK Try.prog (G N) := gam_ok (l := []) (trivial)
theorem snd (N : Nat) : Sound Try.prog E 115 (sp N) :=
  Mir.sound T_OK (G_ok N) mixed Try.func115 (c := code) (by kernel_rfl) (by kernel_rfl) (sp N) (Nat.le_of_ble_eq_true (by kernel_rfl)) live [] (by
    rintro _ r h
    exact ⟨N, 2, ((run N _).trans rfl).trans h⟩)
end impl_roundWords
namespace math_bits_RotateLeft32
noncomputable def code : Code := Try.f135.body.getD .skip
abbrev live : Live := []
noncomputable def G (N : Nat) : Ctx E := gam []
noncomputable def m0 (N : Nat) (a0 : Int) (a1 : Int) : Option R :=
  bif (!decide ((ibit .and .u64 (wu64 a1) (31:Int)) < 0)) then
  bif (!decide ((wu64 ((32:Int) - (ibit .and .u64 (wu64 a1) (31:Int)))) < 0)) then
  (let w1 : Int := (ibit .or .u32 (wu32 (a0 * 2 ^ (min (Int.toNat (ibit .and .u64 (wu64 a1) (31:Int))) 32))) (Int.fdiv a0 (2 ^ (min (Int.toNat (wu64 ((32:Int) - (ibit .and .u64 (wu64 a1) (31:Int))))) 32))))
  some w1)
  else none
  else none
theorem run (N : Nat) (o0 : Orc E R) (a0 : Int) (a1 : Int) : runF T (G N) live [] Try.f135 code (sp N) o0 (a0, a1, ()) = m0 N a0 a1 := by kernel_rfl
theorem G_ok (N : Nat) : GamOK Try.prog (G N) := gam_ok (l := []) (trivial)
theorem snd (N : Nat) : Sound Try.prog E 135 (sp N) :=
  Mir.sound T_OK (G_ok N) mixed Try.func135 (c := code) (by kernel_rfl) (by kernel_rfl) (sp N) (Nat.le_of_ble_eq_true (by kernel_rfl)) live [] (by
    rintro ⟨a0, a1, _⟩ r h
    exact ⟨N, 2, ((run N _ a0 a1).trans rfl).trans h⟩)
end math_bits_RotateLeft32
namespace impl_turned
noncomputable def code : Code := Try.f127.body.getD .skip
abbrev live : Live := []
noncomputable def G (N : Nat) : Ctx E := gam [(135, [], math_bits_RotateLeft32.sp N)]
noncomputable def m0 (N : Nat) (a0 : Int) (a1 : Int) : Option R :=
  ob (math_bits_RotateLeft32.m N a0 (w64 (0 - a1))) fun y1 =>
  some y1
theorem run (N : Nat) (o0 : Orc E R) (a0 : Int) (a1 : Int) : runF T (G N) live [] Try.f127 code (sp N) o0 (a0, a1, ()) = m0 N a0 a1 := by kernel_rfl
theorem G_ok (N : Nat) : GamOK Try.prog (G N) := gam_ok (l := [(135, [], math_bits_RotateLeft32.sp N)]) (⟨math_bits_RotateLeft32.snd N, trivial⟩)
theorem snd (N : Nat) : Sound Try.prog E 127 (sp N) :=
  Mir.sound T_OK (G_ok N) mixed Try.func127 (c := code) (by kernel_rfl) (by kernel_rfl) (sp N) (Nat.le_of_ble_eq_true (by kernel_rfl)) live [] (by
    rintro ⟨a0, a1, _⟩ r h
    exact ⟨N, 2, ((run N _ a0 a1).trans rfl).trans h⟩)
end impl_turned
namespace impl_wordsOf
noncomputable def code : Code := Try.f126.body.getD .skip
abbrev live : Live := [(3, [0, 2, 3, 10])]
noncomputable def G (N : Nat) : Ctx E := gam [(127, [], impl_turned.sp N)]
noncomputable def loop3 : Code := codeAt code [1, 1, 0, 1, 0]
noncomputable def body3 : Code := codeAt loop3 [0]
noncomputable def K3 (N : Nat) (o0 : Orc E R) : KT E R := kAt T (G N) live [] o0 code [1, 1, 0, 1, 0] (kfin T Try.f126 (sp N))
noncomputable def St3 (a0 : ByteArray) : (Int × (List Int) × (List Int)) → St E
  | (v1, v2, v3) => { ρ := [(0, .c (.at (.str a0))), (2, .c (.at (.ptr 0 0))), (3, .c (.at (.ptr 1 0))), (10, .c (.at (.int .i64 v1)))], H := [(0, .arr 109 .u32 64 v2), (1, .arr 109 .u32 64 v3)], nx := 2, n := 87, pin := [] }
noncomputable def m0 (N : Nat) (a0 : ByteArray) (lp3 : Int × (List Int) × (List Int) → Option R) : Option R :=
  lp3 ((0:Int), (List.replicate 64 (0:Int)), (List.replicate 64 (0:Int)))
theorem run (N : Nat) (o0 : Orc E R) (a0 : ByteArray) : runF T (G N) live [] Try.f126 code (sp N) o0 (a0, ()) = m0 N a0 (fun a => o0 loop3 (K3 N o0) (St3 a0 a)) := by kernel_rfl
theorem body3_0 (N : Nat) (o0 : Orc E R) (o1 : Orc E R) (q1 : St E → Option R) (a0 : ByteArray) (v1 : Int) (v2 : List Int) (v3 : List Int) : runA T (G N) live [] o1 body3 (St3 a0 (v1, v2, v3)) (kloop [0, 2, 3, 10] q1 (K3 N o0)) = step3 N a0 (fun a => q1 (St3 a0 a)) (v1, v2, v3) := by kernel_rfl
theorem lp3_eq (N : Nat) (a0 : ByteArray) (a : Int × (List Int) × (List Int)) : (orc T (G N) live [] N 2) loop3 (K3 N (orc T (G N) live [] N 2)) (St3 a0 a) = lp3 N a0 a :=
  (orc_loop (b := body3) (live := [0, 2, 3, 10]) (by kernel_rfl)).trans (iter_eq (St3 a0) _ _ (fun q1 a => by
    have hc := congrFun (congrFun (rfl : (step3 N a0) = (step3 N a0)) (fun a => q1 (St3 a0 a))) a
    obtain ⟨u0, u1, u2⟩ := a
    exact (body3_0 N (orc T (G N) live [] N 2) (orc T (G N) live [] N 1) q1 a0 u0 u1 u2).trans hc) N a)
theorem G_ok (N : Nat) : GamOK Try.prog (G N) := gam_ok (l := [(127, [], impl_turned.sp N)]) (⟨impl_turned.snd N, trivial⟩)
theorem snd (N : Nat) : Sound Try.prog E 126 (sp N) :=
  Mir.sound T_OK (G_ok N) mixed Try.func126 (c := code) (by kernel_rfl) (by kernel_rfl) (sp N) (Nat.le_of_ble_eq_true (by kernel_rfl)) live [] (by
    rintro ⟨a0, _⟩ r h
    exact ⟨N, 2, ((run N _ a0).trans (congrArg (m0 N a0) (funext fun a => lp3_eq N a0 a))).trans h⟩)
end impl_wordsOf
namespace impl_blockHash
noncomputable def code : Code := Try.f116.body.getD .skip
abbrev live : Live := [(11, [3, 6, 7, 100]), (3, [3, 4, 6, 7, 8, 22])]
noncomputable def G (N : Nat) : Ctx E := gam [(126, [], impl_wordsOf.sp N), (127, [], impl_turned.sp N)]
noncomputable def loop3 : Code := codeAt code [1, 1, 0, 1, 0]
noncomputable def body3 : Code := codeAt loop3 [0]
noncomputable def loop11 : Code := codeAt code [1, 1, 1, 0, 1, 0]
noncomputable def body11 : Code := codeAt loop11 [0]
noncomputable def K3 (N : Nat) (o0 : Orc E R) : KT E R := kAt T (G N) live [] o0 code [1, 1, 0, 1, 0] (kfin T Try.f116 (sp N))
noncomputable def St3 (a0 : List Int) (a1 : List Int) (a2 : ByteArray) : (Int × (List Int) × (List Int) × (List Int)) → St E
  | (v0, v3, v4, v5) => { ρ := [(3, .c (.at (.ptr 0 0))), (4, .c (.at (.ptr 1 0))), (6, .c (.at (.ptr 2 0))), (7, .c (.at (.ptr 3 0))), (8, .c (.at (.ptr 4 0))), (22, .c (.at (.int .i64 v0)))], H := [(0, .arr 107 .u32 8 a0), (1, .arr 109 .u32 64 a1), (2, .arr 107 .u32 8 v3), (3, .arr 107 .u32 8 v4), (4, .arr 109 .u32 64 v5)], nx := 5, n := 113, pin := [] }
noncomputable def K11 (N : Nat) (o0 : Orc E R) : KT E R := kAt T (G N) live [] o0 code [1, 1, 1, 0, 1, 0] (kfin T Try.f116 (sp N))
noncomputable def St11 (a0 : List Int) (a1 : List Int) (a2 : ByteArray) : (Int × (List Int) × (List Int)) → St E
  | (v0, v2, v3) => { ρ := [(3, .c (.at (.ptr 0 0))), (6, .c (.at (.ptr 1 0))), (7, .c (.at (.ptr 2 0))), (100, .c (.at (.int .i64 v0)))], H := [(0, .arr 107 .u32 8 a0), (1, .arr 107 .u32 8 v2), (2, .arr 107 .u32 8 v3)], nx := 3, n := 113, pin := [] }
noncomputable def m0 (N : Nat) (a0 : List Int) (a1 : List Int) (a2 : ByteArray) (lp3 : Int × (List Int) × (List Int) × (List Int) → Option R) : Option R :=
  ob (impl_wordsOf.m N a2) fun y1 =>
  lp3 ((0:Int), (List.replicate 8 (0:Int)), a0, y1)
theorem run (N : Nat) (o0 : Orc E R) (a0 : List Int) (a1 : List Int) (a2 : ByteArray) : runF T (G N) live [] Try.f116 code (sp N) o0 (a0, a1, a2, ()) = m0 N a0 a1 a2 (fun a => o0 loop3 (K3 N o0) (St3 a0 a1 a2 a)) := by kernel_rfl
theorem body3_0 (N : Nat) (o0 : Orc E R) (o1 : Orc E R) (q1 : St E → Option R) (a0 : List Int) (a1 : List Int) (a2 : ByteArray) (v0 : Int) (v3 : List Int) (v4 : List Int) (v5 : List Int) : runA T (G N) live [] o1 body3 (St3 a0 a1 a2 (v0, v3, v4, v5)) (kloop [3, 4, 6, 7, 8, 22] q1 (K3 N o0)) = step3 N a0 a1 a2 (fun a => o0 loop11 (K11 N o0) (St11 a0 a1 a2 a)) (fun a => q1 (St3 a0 a1 a2 a)) (v0, v3, v4, v5) := by kernel_rfl
theorem body11_0 (N : Nat) (o0 : Orc E R) (o1 : Orc E R) (q1 : St E → Option R) (a0 : List Int) (a1 : List Int) (a2 : ByteArray) (v0 : Int) (v2 : List Int) (v3 : List Int) : runA T (G N) live [] o1 body11 (St11 a0 a1 a2 (v0, v2, v3)) (kloop [3, 6, 7, 100] q1 (K11 N o0)) = step11 N a0 a1 a2 (fun a => q1 (St11 a0 a1 a2 a)) (v0, v2, v3) := by kernel_rfl
theorem lp11_eq (N : Nat) (a0 : List Int) (a1 : List Int) (a2 : ByteArray) (a : Int × (List Int) × (List Int)) : (orc T (G N) live [] N 2) loop11 (K11 N (orc T (G N) live [] N 2)) (St11 a0 a1 a2 a) = lp11 N a0 a1 a2 a :=
  (orc_loop (b := body11) (live := [3, 6, 7, 100]) (by kernel_rfl)).trans (iter_eq (St11 a0 a1 a2) _ _ (fun q1 a => by
    have hc := congrFun (congrFun (rfl : (step11 N a0 a1 a2) = (step11 N a0 a1 a2)) (fun a => q1 (St11 a0 a1 a2 a))) a
    obtain ⟨u0, u1, u2⟩ := a
    exact (body11_0 N (orc T (G N) live [] N 2) (orc T (G N) live [] N 1) q1 a0 a1 a2 u0 u1 u2).trans hc) N a)
theorem lp3_eq (N : Nat) (a0 : List Int) (a1 : List Int) (a2 : ByteArray) (a : Int × (List Int) × (List Int) × (List Int)) : (orc T (G N) live [] N 2) loop3 (K3 N (orc T (G N) live [] N 2)) (St3 a0 a1 a2 a) = lp3 N a0 a1 a2 a :=
  (orc_loop (b := body3) (live := [3, 4, 6, 7, 8, 22]) (by kernel_rfl)).trans (iter_eq (St3 a0 a1 a2) _ _ (fun q1 a => by
    have hc := congrFun (congrFun (congrArg (step3 N a0 a1 a2) (funext fun a => lp11_eq N a0 a1 a2 a)) (fun a => q1 (St3 a0 a1 a2 a))) a
    obtain ⟨u0, u1, u2, u3⟩ := a
    exact (body3_0 N (orc T (G N) live [] N 2) (orc T (G N) live [] N 1) q1 a0 a1 a2 u0 u1 u2 u3).trans hc) N a)
theorem G_ok (N : Nat) : GamOK Try.prog (G N) := gam_ok (l := [(126, [], impl_wordsOf.sp N), (127, [], impl_turned.sp N)]) (⟨impl_wordsOf.snd N, impl_turned.snd N, trivial⟩)
theorem snd (N : Nat) : Sound Try.prog E 116 (sp N) :=
  Mir.sound T_OK (G_ok N) mixed Try.func116 (c := code) (by kernel_rfl) (by kernel_rfl) (sp N) (Nat.le_of_ble_eq_true (by kernel_rfl)) live [] (by
    rintro ⟨a0, a1, a2, _⟩ r h
    exact ⟨N, 2, ((run N _ a0 a1 a2).trans (congrArg (m0 N a0 a1 a2) (funext fun a => lp3_eq N a0 a1 a2 a))).trans h⟩)
end impl_blockHash
namespace impl_hash
noncomputable def code : Code := Try.f95.body.getD .skip
abbrev live : Live := [(9, [7, 40, 41]), (4, [3, 4, 5, 6])]
noncomputable def G (N : Nat) : Ctx E := gam [(113, [], strings_Repeat.sp N), (96, [], impl_number.sp N), (114, [], impl_hashWords.sp N), (115, [], impl_roundWords.sp N), (116, [], impl_blockHash.sp N)]
noncomputable def loop4 : Code := codeAt code [1, 1, 1, 0, 1, 0]
noncomputable def body4 : Code := codeAt loop4 [0]
noncomputable def loop9 : Code := codeAt code [1, 1, 1, 1, 1, 0, 1, 0]
noncomputable def body9 : Code := codeAt loop9 [0]
noncomputable def K4 (N : Nat) (o0 : Orc E R) : KT E R := kAt T (G N) live [] o0 code [1, 1, 1, 0, 1, 0] (kfin T Try.f95 (sp N))
noncomputable def St4 (a0 : ByteArray) : (ByteArray × Int × (List Int) × (List Int)) → St E
  | (v0, v1, v2, v3) => { ρ := [(3, .c (.at (.str v0))), (4, .c (.at (.ptr 0 0))), (5, .c (.at (.ptr 1 0))), (6, .c (.at (.int .i64 v1)))], H := [(0, .arr 107 .u32 8 v2), (1, .arr 109 .u32 64 v3)], nx := 2, n := 51, pin := [] }
noncomputable def K9 (N : Nat) (o0 : Orc E R) : KT E R := kAt T (G N) live [] o0 code [1, 1, 1, 1, 1, 0, 1, 0] (kfin T Try.f95 (sp N))
noncomputable def St9 (a0 : ByteArray) : (ByteArray × (List Int) × Int) → St E
  | (v0, v1, v2) => { ρ := [(7, .c (.at (.str v0))), (40, .c (.arr .u32 8 v1)), (41, .c (.at (.int .i64 v2)))], H := [], nx := 0, n := 51, pin := [] }
noncomputable def m0 (N : Nat) (a0 : ByteArray) (lp4 : ByteArray × Int × (List Int) × (List Int) → Option R) : Option R :=
  bif (decide (a0.size + (⟨#[128]⟩ : ByteArray).size ≤ 9223372036854775807)) then
  bif (!decide ((64:Int) = 0)) then
  bif (!decide ((64:Int) = 0)) then
  ob (strings_Repeat.m N (⟨#[0]⟩ : ByteArray) (Int.tmod (w64 ((119:Int) - (Int.tmod (a0.size : Int) (64:Int)))) (64:Int))) fun y1 =>
  bif (decide ((a0 ++ (⟨#[128]⟩ : ByteArray)).size + y1.size ≤ 9223372036854775807)) then
  ob (impl_number.m N (w64 ((8:Int) * (a0.size : Int))) (8:Int)) fun y2 =>
  bif (decide (((a0 ++ (⟨#[128]⟩ : ByteArray)) ++ y1).size + y2.size ≤ 9223372036854775807)) then
  ob (impl_hashWords.m N) fun y3 =>
  ob (impl_roundWords.m N) fun y4 =>
  lp4 ((((a0 ++ (⟨#[128]⟩ : ByteArray)) ++ y1) ++ y2), (0:Int), y3, y4)
  else none
  else none
  else none
  else none
  else none
theorem run (N : Nat) (o0 : Orc E R) (a0 : ByteArray) : runF T (G N) live [] Try.f95 code (sp N) o0 (a0, ()) = m0 N a0 (fun a => o0 loop4 (K4 N o0) (St4 a0 a)) := by kernel_rfl
theorem body4_0 (N : Nat) (o0 : Orc E R) (o1 : Orc E R) (q1 : St E → Option R) (a0 : ByteArray) (v0 : ByteArray) (v1 : Int) (v2 : List Int) (v3 : List Int) : runA T (G N) live [] o1 body4 (St4 a0 (v0, v1, v2, v3)) (kloop [3, 4, 5, 6] q1 (K4 N o0)) = step4 N a0 (fun a => o0 loop9 (K9 N o0) (St9 a0 a)) (fun a => q1 (St4 a0 a)) (v0, v1, v2, v3) := by kernel_rfl
theorem body9_0 (N : Nat) (o0 : Orc E R) (o1 : Orc E R) (q1 : St E → Option R) (a0 : ByteArray) (v0 : ByteArray) (v1 : List Int) (v2 : Int) : runA T (G N) live [] o1 body9 (St9 a0 (v0, v1, v2)) (kloop [7, 40, 41] q1 (K9 N o0)) = step9 N a0 (fun a => q1 (St9 a0 a)) (v0, v1, v2) := by kernel_rfl
theorem lp9_eq (N : Nat) (a0 : ByteArray) (a : ByteArray × (List Int) × Int) : (orc T (G N) live [] N 2) loop9 (K9 N (orc T (G N) live [] N 2)) (St9 a0 a) = lp9 N a0 a :=
  (orc_loop (b := body9) (live := [7, 40, 41]) (by kernel_rfl)).trans (iter_eq (St9 a0) _ _ (fun q1 a => by
    have hc := congrFun (congrFun (rfl : (step9 N a0) = (step9 N a0)) (fun a => q1 (St9 a0 a))) a
    obtain ⟨u0, u1, u2⟩ := a
    exact (body9_0 N (orc T (G N) live [] N 2) (orc T (G N) live [] N 1) q1 a0 u0 u1 u2).trans hc) N a)
theorem lp4_eq (N : Nat) (a0 : ByteArray) (a : ByteArray × Int × (List Int) × (List Int)) : (orc T (G N) live [] N 2) loop4 (K4 N (orc T (G N) live [] N 2)) (St4 a0 a) = lp4 N a0 a :=
  (orc_loop (b := body4) (live := [3, 4, 5, 6]) (by kernel_rfl)).trans (iter_eq (St4 a0) _ _ (fun q1 a => by
    have hc := congrFun (congrFun (congrArg (step4 N a0) (funext fun a => lp9_eq N a0 a)) (fun a => q1 (St4 a0 a))) a
    obtain ⟨u0, u1, u2, u3⟩ := a
    exact (body4_0 N (orc T (G N) live [] N 2) (orc T (G N) live [] N 1) q1 a0 u0 u1 u2 u3).trans hc) N a)
theorem G_ok (N : Nat) : GamOK Try.prog (G N) := gam_ok (l := [(113, [], strings_Repeat.sp N), (96, [], impl_number.sp N), (114, [], impl_hashWords.sp N), (115, [], impl_roundWords.sp N), (116, [], impl_blockHash.sp N)]) (⟨strings_Repeat.snd N, impl_number.snd N, impl_hashWords.snd N, impl_roundWords.snd N, impl_blockHash.snd N, trivial⟩)
theorem snd (N : Nat) : Sound Try.prog E 95 (sp N) :=
  Mir.sound T_OK (G_ok N) mixed Try.func95 (c := code) (by kernel_rfl) (by kernel_rfl) (sp N) (Nat.le_of_ble_eq_true (by kernel_rfl)) live [] (by
    rintro ⟨a0, _⟩ r h
    exact ⟨N, 2, ((run N _ a0).trans (congrArg (m0 N a0) (funext fun a => lp4_eq N a0 a))).trans h⟩)
end impl_hash
namespace impl_digits
noncomputable def code : Code := Try.f61.body.getD .skip
abbrev live : Live := [(4, [3, 4, 5, 12])]
noncomputable def G (N : Nat) : Ctx E := gam [(95, [], impl_hash.sp N)]
noncomputable def loop4 : Code := codeAt code [1, 1, 1, 0, 1, 0]
noncomputable def body4 : Code := codeAt loop4 [0]
noncomputable def K4 (N : Nat) (o0 : Orc E R) : KT E R := kAt T (G N) live [] o0 code [1, 1, 1, 0, 1, 0] (kfin T Try.f61 (sp N))
noncomputable def St4 (a0 : ByteArray) : (Int × ByteArray × Int × (List Int)) → St E
  | (v0, v1, v2, v3) => { ρ := [(3, .c (.at (.own 0))), (4, .c (.at (.int .i64 v0))), (5, .c (.at (.str v1))), (12, .c (.at (.int .i64 v2)))], H := [(0, .row 3 (.int .i64) v3 false)], nx := 1, n := 44, pin := [] }
noncomputable def m0 (N : Nat) (a0 : ByteArray) (lp4 : Int × ByteArray × Int × (List Int) → Option R) : Option R :=
  ob (impl_hash.m N a0) fun y1 =>
  lp4 ((0:Int), y1, (0:Int), ([] : List Int))
theorem run (N : Nat) (o0 : Orc E R) (a0 : ByteArray) : runF T (G N) live [] Try.f61 code (sp N) o0 (a0, ()) = m0 N a0 (fun a => o0 loop4 (K4 N o0) (St4 a0 a)) := by kernel_rfl
theorem body4_0 (N : Nat) (o0 : Orc E R) (o1 : Orc E R) (q1 : St E → Option R) (a0 : ByteArray) (v0 : Int) (v1 : ByteArray) (v2 : Int) (v3 : List Int) : runA T (G N) live [] o1 body4 (St4 a0 (v0, v1, v2, v3)) (kloop [3, 4, 5, 12] q1 (K4 N o0)) = step4 N a0 (fun a => q1 (St4 a0 a)) (v0, v1, v2, v3) := by kernel_rfl
theorem lp4_eq (N : Nat) (a0 : ByteArray) (a : Int × ByteArray × Int × (List Int)) : (orc T (G N) live [] N 2) loop4 (K4 N (orc T (G N) live [] N 2)) (St4 a0 a) = lp4 N a0 a :=
  (orc_loop (b := body4) (live := [3, 4, 5, 12]) (by kernel_rfl)).trans (iter_eq (St4 a0) _ _ (fun q1 a => by
    have hc := congrFun (congrFun (rfl : (step4 N a0) = (step4 N a0)) (fun a => q1 (St4 a0 a))) a
    obtain ⟨u0, u1, u2, u3⟩ := a
    exact (body4_0 N (orc T (G N) live [] N 2) (orc T (G N) live [] N 1) q1 a0 u0 u1 u2 u3).trans hc) N a)
theorem G_ok (N : Nat) : GamOK Try.prog (G N) := gam_ok (l := [(95, [], impl_hash.sp N)]) (⟨impl_hash.snd N, trivial⟩)
theorem snd (N : Nat) : Sound Try.prog E 61 (sp N) :=
  Mir.sound T_OK (G_ok N) mixed Try.func61 (c := code) (by kernel_rfl) (by kernel_rfl) (sp N) (Nat.le_of_ble_eq_true (by kernel_rfl)) live [] (by
    rintro ⟨a0, _⟩ r h
    exact ⟨N, 2, ((run N _ a0).trans (congrArg (m0 N a0) (funext fun a => lp4_eq N a0 a))).trans h⟩)
end impl_digits
namespace impl_Digits
noncomputable def code : Code := Try.f19.body.getD .skip
abbrev live : Live := []
noncomputable def G (N : Nat) : Ctx E := gam [(52, [], impl_isText.sp N), (61, [], impl_digits.sp N)]
noncomputable def m0 (N : Nat) (a0 : ByteArray) : Option R :=
  ob (impl_isText.m N ([a0])) fun y1 =>
  bif (!y1) then
    some (([] : List Int), (2:Int))
  else
  ob (impl_digits.m N a0) fun y2 =>
  some (y2, (0:Int))
theorem run (N : Nat) (o0 : Orc E R) (a0 : ByteArray) : runF T (G N) live [] Try.f19 code (sp N) o0 (a0, ()) = m0 N a0 := by kernel_rfl
theorem G_ok (N : Nat) : GamOK Try.prog (G N) := gam_ok (l := [(52, [], impl_isText.sp N), (61, [], impl_digits.sp N)]) (⟨impl_isText.snd N, impl_digits.snd N, trivial⟩)
theorem snd (N : Nat) : Sound Try.prog E 19 (sp N) :=
  Mir.sound T_OK (G_ok N) mixed Try.func19 (c := code) (by kernel_rfl) (by kernel_rfl) (sp N) (Nat.le_of_ble_eq_true (by kernel_rfl)) live [] (by
    rintro ⟨a0, _⟩ r h
    exact ⟨N, 2, ((run N _ a0).trans rfl).trans h⟩)
end impl_Digits
namespace spec_l00Src_pick_
noncomputable def code : Code := Try.f104.body.getD .skip
abbrev live : Live := []
noncomputable def G (N : Nat) : Ctx E := gam [(103, [], spec_l00Src_next_.sp N)]
noncomputable def m0 (N : Nat) (a0 : l00Src) (a1 : List ByteArray) : Option R :=
  bif ((a1.length : Int) == (0:Int)) then
    some (ByteArray.empty, a0)
  else
  ob (spec_l00Src_next_.m N a0 (a1.length : Int)) fun y1 =>
  bif (decide (0 ≤ y1.1)) then
  bif (decide (y1.1 < (a1.length : Int))) then
  some ((a1.getD (Int.toNat y1.1) ByteArray.empty), y1.2)
  else none
  else none
theorem run (N : Nat) (o0 : Orc E R) (a0 : l00Src) (a1 : List ByteArray) : runF T (G N) live [] Try.f104 code (sp N) o0 (a0, a1, ()) = m0 N a0 a1 := by kernel_rfl
theorem G_ok (N : Nat) : GamOK Try.prog (G N) := gam_ok (l := [(103, [], spec_l00Src_next_.sp N)]) (⟨spec_l00Src_next_.snd N, trivial⟩)
theorem snd (N : Nat) : Sound Try.prog E 104 (sp N) :=
  Mir.sound T_OK (G_ok N) mixed Try.func104 (c := code) (by kernel_rfl) (by kernel_rfl) (sp N) (Nat.le_of_ble_eq_true (by kernel_rfl)) live [] (by
    rintro ⟨a0, a1, _⟩ r h
    exact ⟨N, 2, ((run N _ a0 a1).trans rfl).trans h⟩)
end spec_l00Src_pick_
namespace spec_l00Src_message
noncomputable def code : Code := Try.f70.body.getD .skip
abbrev live : Live := []
noncomputable def G (N : Nat) : Ctx E := gam [(104, [], spec_l00Src_pick_.sp N)]
noncomputable def m0 (N : Nat) (a0 : l00Src) : Option R :=
  (let w1 : List ByteArray := [ByteArray.empty, (⟨#[104, 101, 108, 108, 111]⟩ : ByteArray), (⟨#[97, 32, 114, 111, 111, 116]⟩ : ByteArray), (⟨#[98]⟩ : ByteArray), (⟨#[109, 101, 115, 115, 97, 103, 101]⟩ : ByteArray)]
  ob (spec_l00Src_pick_.m N a0 w1) fun y2 =>
  some (y2.1, y2.2))
theorem run (N : Nat) (o0 : Orc E R) (a0 : l00Src) : runF T (G N) live [] Try.f70 code (sp N) o0 (a0, ()) = m0 N a0 := by kernel_rfl
theorem G_ok (N : Nat) : GamOK Try.prog (G N) := gam_ok (l := [(104, [], spec_l00Src_pick_.sp N)]) (⟨spec_l00Src_pick_.snd N, trivial⟩)
theorem snd (N : Nat) : Sound Try.prog E 70 (sp N) :=
  Mir.sound T_OK (G_ok N) mixed Try.func70 (c := code) (by kernel_rfl) (by kernel_rfl) (sp N) (Nat.le_of_ble_eq_true (by kernel_rfl)) live [] (by
    rintro ⟨a0, _⟩ r h
    exact ⟨N, 2, ((run N _ a0).trans rfl).trans h⟩)
end spec_l00Src_message
namespace spec_MessageOf
noncomputable def code : Code := Try.f28.body.getD .skip
abbrev live : Live := []
noncomputable def G (N : Nat) : Ctx E := gam [(68, [], spec_l00Source.sp N), (70, [], spec_l00Src_message.sp N)]
noncomputable def m0 (N : Nat) (a0 : List Int) : Option R :=
  ob (spec_l00Source.m N a0) fun y1 =>
  ob (spec_l00Src_message.m N y1) fun y2 =>
  some y2.1
theorem run (N : Nat) (o0 : Orc E R) (a0 : List Int) : runF T (G N) live [] Try.f28 code (sp N) o0 (a0, ()) = m0 N a0 := by kernel_rfl
theorem G_ok (N : Nat) : GamOK Try.prog (G N) := gam_ok (l := [(68, [], spec_l00Source.sp N), (70, [], spec_l00Src_message.sp N)]) (⟨spec_l00Source.snd N, spec_l00Src_message.snd N, trivial⟩)
theorem snd (N : Nat) : Sound Try.prog E 28 (sp N) :=
  Mir.sound T_OK (G_ok N) mixed Try.func28 (c := code) (by kernel_rfl) (by kernel_rfl) (sp N) (Nat.le_of_ble_eq_true (by kernel_rfl)) live [] (by
    rintro ⟨a0, _⟩ r h
    exact ⟨N, 2, ((run N _ a0).trans rfl).trans h⟩)
end spec_MessageOf
namespace spec_l01Consts
noncomputable def code : Code := Try.f110.body.getD .skip
abbrev live : Live := []
noncomputable def G (N : Nat) : Ctx E := gam []
noncomputable def m0 (N : Nat) : Option R :=
  (let w1 : List Int := [(1116352408:Int), (1899447441:Int), (3049323471:Int), (3921009573:Int), (961987163:Int), (1508970993:Int), (2453635748:Int), (2870763221:Int), (3624381080:Int), (310598401:Int), (607225278:Int), (1426881987:Int), (1925078388:Int), (2162078206:Int), (2614888103:Int), (3248222580:Int), (3835390401:Int), (4022224774:Int), (264347078:Int), (604807628:Int), (770255983:Int), (1249150122:Int), (1555081692:Int), (1996064986:Int), (2554220882:Int), (2821834349:Int), (2952996808:Int), (3210313671:Int), (3336571891:Int), (3584528711:Int), (113926993:Int), (338241895:Int), (666307205:Int), (773529912:Int), (1294757372:Int), (1396182291:Int), (1695183700:Int), (1986661051:Int), (2177026350:Int), (2456956037:Int), (2730485921:Int), (2820302411:Int), (3259730800:Int), (3345764771:Int), (3516065817:Int), (3600352804:Int), (4094571909:Int), (275423344:Int), (430227734:Int), (506948616:Int), (659060556:Int), (883997877:Int), (958139571:Int), (1322822218:Int), (1537002063:Int), (1747873779:Int), (1955562222:Int), (2024104815:Int), (2227730452:Int), (2361852424:Int), (2428436474:Int), (2756734187:Int), (3204031479:Int), (3329325298:Int)]
  some w1)
theorem run (N : Nat) (o0 : Orc E R) : runF T (G N) live [] Try.f110 code (sp N) o0 () = m0 N := by kernel_rfl
theorem G_ok (N : Nat) : GamOK Try.prog (G N) := gam_ok (l := []) (trivial)
theorem snd (N : Nat) : Sound Try.prog E 110 (sp N) :=
  Mir.sound T_OK (G_ok N) mixed Try.func110 (c := code) (by kernel_rfl) (by kernel_rfl) (sp N) (Nat.le_of_ble_eq_true (by kernel_rfl)) live [] (by
    rintro _ r h
    exact ⟨N, 2, ((run N _).trans rfl).trans h⟩)
end spec_l01Consts
namespace spec_l01Turn
noncomputable def code : Code := Try.f119.body.getD .skip
abbrev live : Live := []
noncomputable def G (N : Nat) : Ctx E := gam []
noncomputable def m0 (N : Nat) (a0 : Int) (a1 : Int) : Option R :=
  bif (!decide (a1 < 0)) then
  bif (!decide ((wu64 ((32:Int) - a1)) < 0)) then
  some (ibit .or .u32 (Int.fdiv a0 (2 ^ (min (Int.toNat a1) 32))) (wu32 (a0 * 2 ^ (min (Int.toNat (wu64 ((32:Int) - a1))) 32))))
  else none
  else none
theorem run (N : Nat) (o0 : Orc E R) (a0 : Int) (a1 : Int) : runF T (G N) live [] Try.f119 code (sp N) o0 (a0, a1, ()) = m0 N a0 a1 := by kernel_rfl
theorem G_ok (N : Nat) : GamOK Try.prog (G N) := gam_ok (l := []) (trivial)
theorem snd (N : Nat) : Sound Try.prog E 119 (sp N) :=
  Mir.sound T_OK (G_ok N) mixed Try.func119 (c := code) (by kernel_rfl) (by kernel_rfl) (sp N) (Nat.le_of_ble_eq_true (by kernel_rfl)) live [] (by
    rintro ⟨a0, a1, _⟩ r h
    exact ⟨N, 2, ((run N _ a0 a1).trans rfl).trans h⟩)
end spec_l01Turn
namespace spec_l01Block
noncomputable def code : Code := Try.f111.body.getD .skip
abbrev live : Live := [(21, [0, 11, 17]), (13, [0, 2, 6, 11, 12]), (6, [0, 2, 6, 8]), (2, [0, 1, 2, 6, 7])]
noncomputable def G (N : Nat) : Ctx E := gam [(119, [], spec_l01Turn.sp N)]
noncomputable def loop2 : Code := codeAt code [1, 0, 1, 0]
noncomputable def body2 : Code := codeAt loop2 [0]
noncomputable def loop6 : Code := codeAt code [1, 1, 0, 1, 0]
noncomputable def body6 : Code := codeAt loop6 [0]
noncomputable def loop13 : Code := codeAt code [1, 1, 1, 1, 0, 1, 0]
noncomputable def body13 : Code := codeAt loop13 [0]
noncomputable def loop21 : Code := codeAt code [1, 1, 1, 1, 1, 1, 0]
noncomputable def body21 : Code := codeAt loop21 [0]
noncomputable def K2 (N : Nat) (o0 : Orc E R) : KT E R := kAt T (G N) live [] o0 code [1, 0, 1, 0] (kfin T Try.f111 (sp N))
noncomputable def St2 (a0 : List Int) (a1 : List Int) (a2 : List Int) : (Int × (List Int)) → St E
  | (v2, v4) => { ρ := [(0, .c (.at (.own 0))), (1, .c (.at (.ro 5 (.int .u8) a1))), (2, .c (.at (.ro 102 (.int .u32) a2))), (6, .c (.at (.own 1))), (7, .c (.at (.int .i64 v2)))], H := [(0, .row 102 (.int .u32) a0 false), (1, .row 102 (.int .u32) v4 false)], nx := 2, n := 222, pin := [0] }
noncomputable def K6 (N : Nat) (o0 : Orc E R) : KT E R := kAt T (G N) live [] o0 code [1, 1, 0, 1, 0] (kfin T Try.f111 (sp N))
noncomputable def St6 (a0 : List Int) (a1 : List Int) (a2 : List Int) : (Int × (List Int)) → St E
  | (v1, v3) => { ρ := [(0, .c (.at (.own 0))), (2, .c (.at (.ro 102 (.int .u32) a2))), (6, .c (.at (.own 1))), (8, .c (.at (.int .i64 v1)))], H := [(0, .row 102 (.int .u32) a0 false), (1, .row 102 (.int .u32) v3 false)], nx := 2, n := 222, pin := [0] }
noncomputable def K13 (N : Nat) (o0 : Orc E R) : KT E R := kAt T (G N) live [] o0 code [1, 1, 1, 1, 0, 1, 0] (kfin T Try.f111 (sp N))
noncomputable def St13 (a0 : List Int) (a1 : List Int) (a2 : List Int) : (Int × (List Int) × (List Int)) → St E
  | (v1, v3, v4) => { ρ := [(0, .c (.at (.own 0))), (2, .c (.at (.ro 102 (.int .u32) a2))), (6, .c (.at (.own 1))), (11, .c (.at (.own 2))), (12, .c (.at (.int .i64 v1)))], H := [(0, .row 102 (.int .u32) a0 false), (1, .row 102 (.int .u32) v3 false), (2, .row 102 (.int .u32) v4 false)], nx := 3, n := 222, pin := [0] }
noncomputable def K21 (N : Nat) (o0 : Orc E R) : KT E R := kAt T (G N) live [] o0 code [1, 1, 1, 1, 1, 1, 0] (kfin T Try.f111 (sp N))
noncomputable def St21 (a0 : List Int) (a1 : List Int) (a2 : List Int) : (Int × (List Int) × (List Int)) → St E
  | (v0, v1, v2) => { ρ := [(0, .c (.at (.own 0))), (11, .c (.at (.own 1))), (17, .c (.at (.int .i64 v0)))], H := [(0, .row 102 (.int .u32) v1 false), (1, .row 102 (.int .u32) v2 false)], nx := 2, n := 222, pin := [0] }
noncomputable def m0 (N : Nat) (a0 : List Int) (a1 : List Int) (a2 : List Int) (lp2 : Int × (List Int) → Option R) : Option R :=
  bif (decide (0 ≤ (64:Int))) then
  bif (room 64 4) then
  lp2 ((0:Int), (List.replicate 64 (0:Int)))
  else none
  else none
theorem run (N : Nat) (o0 : Orc E R) (a0 : List Int) (a1 : List Int) (a2 : List Int) : runF T (G N) live [] Try.f111 code (sp N) o0 (a0, a1, a2, ()) = m0 N a0 a1 a2 (fun a => o0 loop2 (K2 N o0) (St2 a0 a1 a2 a)) := by kernel_rfl
theorem body2_0 (N : Nat) (o0 : Orc E R) (o1 : Orc E R) (q1 : St E → Option R) (a0 : List Int) (a1 : List Int) (a2 : List Int) (v2 : Int) (v4 : List Int) : runA T (G N) live [] o1 body2 (St2 a0 a1 a2 (v2, v4)) (kloop [0, 1, 2, 6, 7] q1 (K2 N o0)) = step2 N a0 a1 a2 (fun a => o0 loop6 (K6 N o0) (St6 a0 a1 a2 a)) (fun a => q1 (St2 a0 a1 a2 a)) (v2, v4) := by kernel_rfl
theorem body6_0 (N : Nat) (o0 : Orc E R) (o1 : Orc E R) (q1 : St E → Option R) (a0 : List Int) (a1 : List Int) (a2 : List Int) (v1 : Int) (v3 : List Int) : runA T (G N) live [] o1 body6 (St6 a0 a1 a2 (v1, v3)) (kloop [0, 2, 6, 8] q1 (K6 N o0)) = step6 N a0 a1 a2 (fun a => o0 loop13 (K13 N o0) (St13 a0 a1 a2 a)) (fun a => q1 (St6 a0 a1 a2 a)) (v1, v3) := by kernel_rfl
theorem body13_0 (N : Nat) (o0 : Orc E R) (o1 : Orc E R) (q1 : St E → Option R) (a0 : List Int) (a1 : List Int) (a2 : List Int) (v1 : Int) (v3 : List Int) (v4 : List Int) : runA T (G N) live [] o1 body13 (St13 a0 a1 a2 (v1, v3, v4)) (kloop [0, 2, 6, 11, 12] q1 (K13 N o0)) = step13 N a0 a1 a2 (fun a => o0 loop21 (K21 N o0) (St21 a0 a1 a2 a)) (fun a => q1 (St13 a0 a1 a2 a)) (v1, v3, v4) := by kernel_rfl
theorem body21_0 (N : Nat) (o0 : Orc E R) (o1 : Orc E R) (q1 : St E → Option R) (a0 : List Int) (a1 : List Int) (a2 : List Int) (v0 : Int) (v1 : List Int) (v2 : List Int) : runA T (G N) live [] o1 body21 (St21 a0 a1 a2 (v0, v1, v2)) (kloop [0, 11, 17] q1 (K21 N o0)) = step21 N a0 a1 a2 (fun a => q1 (St21 a0 a1 a2 a)) (v0, v1, v2) := by kernel_rfl
theorem lp21_eq (N : Nat) (a0 : List Int) (a1 : List Int) (a2 : List Int) (a : Int × (List Int) × (List Int)) : (orc T (G N) live [] N 2) loop21 (K21 N (orc T (G N) live [] N 2)) (St21 a0 a1 a2 a) = lp21 N a0 a1 a2 a :=
  (orc_loop (b := body21) (live := [0, 11, 17]) (by kernel_rfl)).trans (iter_eq (St21 a0 a1 a2) _ _ (fun q1 a => by
    have hc := congrFun (congrFun (rfl : (step21 N a0 a1 a2) = (step21 N a0 a1 a2)) (fun a => q1 (St21 a0 a1 a2 a))) a
    obtain ⟨u0, u1, u2⟩ := a
    exact (body21_0 N (orc T (G N) live [] N 2) (orc T (G N) live [] N 1) q1 a0 a1 a2 u0 u1 u2).trans hc) N a)
theorem lp13_eq (N : Nat) (a0 : List Int) (a1 : List Int) (a2 : List Int) (a : Int × (List Int) × (List Int)) : (orc T (G N) live [] N 2) loop13 (K13 N (orc T (G N) live [] N 2)) (St13 a0 a1 a2 a) = lp13 N a0 a1 a2 a :=
  (orc_loop (b := body13) (live := [0, 2, 6, 11, 12]) (by kernel_rfl)).trans (iter_eq (St13 a0 a1 a2) _ _ (fun q1 a => by
    have hc := congrFun (congrFun (congrArg (step13 N a0 a1 a2) (funext fun a => lp21_eq N a0 a1 a2 a)) (fun a => q1 (St13 a0 a1 a2 a))) a
    obtain ⟨u0, u1, u2⟩ := a
    exact (body13_0 N (orc T (G N) live [] N 2) (orc T (G N) live [] N 1) q1 a0 a1 a2 u0 u1 u2).trans hc) N a)
theorem lp6_eq (N : Nat) (a0 : List Int) (a1 : List Int) (a2 : List Int) (a : Int × (List Int)) : (orc T (G N) live [] N 2) loop6 (K6 N (orc T (G N) live [] N 2)) (St6 a0 a1 a2 a) = lp6 N a0 a1 a2 a :=
  (orc_loop (b := body6) (live := [0, 2, 6, 8]) (by kernel_rfl)).trans (iter_eq (St6 a0 a1 a2) _ _ (fun q1 a => by
    have hc := congrFun (congrFun (congrArg (step6 N a0 a1 a2) (funext fun a => lp13_eq N a0 a1 a2 a)) (fun a => q1 (St6 a0 a1 a2 a))) a
    obtain ⟨u0, u1⟩ := a
    exact (body6_0 N (orc T (G N) live [] N 2) (orc T (G N) live [] N 1) q1 a0 a1 a2 u0 u1).trans hc) N a)
theorem lp2_eq (N : Nat) (a0 : List Int) (a1 : List Int) (a2 : List Int) (a : Int × (List Int)) : (orc T (G N) live [] N 2) loop2 (K2 N (orc T (G N) live [] N 2)) (St2 a0 a1 a2 a) = lp2 N a0 a1 a2 a :=
  (orc_loop (b := body2) (live := [0, 1, 2, 6, 7]) (by kernel_rfl)).trans (iter_eq (St2 a0 a1 a2) _ _ (fun q1 a => by
    have hc := congrFun (congrFun (congrArg (step2 N a0 a1 a2) (funext fun a => lp6_eq N a0 a1 a2 a)) (fun a => q1 (St2 a0 a1 a2 a))) a
    obtain ⟨u0, u1⟩ := a
    exact (body2_0 N (orc T (G N) live [] N 2) (orc T (G N) live [] N 1) q1 a0 a1 a2 u0 u1).trans hc) N a)
theorem G_ok (N : Nat) : GamOK Try.prog (G N) := gam_ok (l := [(119, [], spec_l01Turn.sp N)]) (⟨spec_l01Turn.snd N, trivial⟩)
theorem snd (N : Nat) : Sound Try.prog E 111 (sp N) :=
  Mir.sound T_OK (G_ok N) mixed Try.func111 (c := code) (by kernel_rfl) (by kernel_rfl) (sp N) (Nat.le_of_ble_eq_true (by kernel_rfl)) live [] (by
    rintro ⟨a0, a1, a2, _⟩ r h
    exact ⟨N, 2, ((run N _ a0 a1 a2).trans (congrArg (m0 N a0 a1 a2) (funext fun a => lp2_eq N a0 a1 a2 a))).trans h⟩)
end spec_l01Block
namespace spec_l01Hash
noncomputable def code : Code := Try.f91.body.getD .skip
abbrev live : Live := [(16, [3, 8, 9]), (11, [3, 4, 6, 7]), (6, [0, 3, 4, 5]), (3, [0, 3, 4])]
noncomputable def G (N : Nat) : Ctx E := gam [(110, [], spec_l01Consts.sp N), (111, [], spec_l01Block.sp N)]
noncomputable def loop3 : Code := codeAt code [1, 1, 1, 0, 0]
noncomputable def body3 : Code := codeAt loop3 [0]
noncomputable def loop6 : Code := codeAt code [1, 1, 1, 1, 0, 1, 0]
noncomputable def body6 : Code := codeAt loop6 [0]
noncomputable def loop11 : Code := codeAt code [1, 1, 1, 1, 1, 1, 0, 1, 0]
noncomputable def body11 : Code := codeAt loop11 [0]
noncomputable def loop16 : Code := codeAt code [1, 1, 1, 1, 1, 1, 1, 1, 0, 1, 0]
noncomputable def body16 : Code := codeAt loop16 [0]
noncomputable def K3 (N : Nat) (o0 : Orc E R) : KT E R := kAt T (G N) live [] o0 code [1, 1, 1, 0, 0] (kfin T Try.f91 (sp N))
noncomputable def St3 (a0 : List Int) : ((List Int) × (List Int)) → St E
  | (v1, v2) => { ρ := [(0, .c (.at (.ro 5 (.int .u8) a0))), (3, .c (.at (.own 0))), (4, .c (.at (.own 1)))], H := [(0, .row 102 (.int .u32) v1 false), (1, .row 5 (.int .u8) v2 false)], nx := 2, n := 86, pin := [] }
noncomputable def K6 (N : Nat) (o0 : Orc E R) : KT E R := kAt T (G N) live [] o0 code [1, 1, 1, 1, 0, 1, 0] (kfin T Try.f91 (sp N))
noncomputable def St6 (a0 : List Int) : (Int × (List Int) × (List Int)) → St E
  | (v1, v2, v3) => { ρ := [(0, .c (.at (.ro 5 (.int .u8) a0))), (3, .c (.at (.own 0))), (4, .c (.at (.own 1))), (5, .c (.at (.int .i64 v1)))], H := [(0, .row 102 (.int .u32) v2 false), (1, .row 5 (.int .u8) v3 false)], nx := 2, n := 86, pin := [] }
noncomputable def K11 (N : Nat) (o0 : Orc E R) : KT E R := kAt T (G N) live [] o0 code [1, 1, 1, 1, 1, 1, 0, 1, 0] (kfin T Try.f91 (sp N))
noncomputable def St11 (a0 : List Int) : (Int × (List Int) × (List Int) × (List Int)) → St E
  | (v0, v1, v2, v3) => { ρ := [(3, .c (.at (.own 0))), (4, .c (.at (.own 1))), (6, .c (.at (.own 2))), (7, .c (.at (.int .i64 v0)))], H := [(0, .row 102 (.int .u32) v1 false), (1, .row 5 (.int .u8) v2 false), (2, .row 102 (.int .u32) v3 false)], nx := 3, n := 86, pin := [] }
noncomputable def K16 (N : Nat) (o0 : Orc E R) : KT E R := kAt T (G N) live [] o0 code [1, 1, 1, 1, 1, 1, 1, 1, 0, 1, 0] (kfin T Try.f91 (sp N))
noncomputable def St16 (a0 : List Int) : (Int × (List Int) × (List Int)) → St E
  | (v0, v1, v2) => { ρ := [(3, .c (.at (.own 0))), (8, .c (.at (.own 1))), (9, .c (.at (.int .i64 v0)))], H := [(0, .row 102 (.int .u32) v1 false), (1, .row 5 (.int .u8) v2 false)], nx := 2, n := 86, pin := [] }
noncomputable def m0 (N : Nat) (a0 : List Int) (lp3 : (List Int) × (List Int) → Option R) : Option R :=
  (let w1 : List Int := [(1779033703:Int), (3144134277:Int), (1013904242:Int), (2773480762:Int), (1359893119:Int), (2600822924:Int), (528734635:Int), (1541459225:Int)]
  bif (room (([] : List Int).length + a0.length) 1) then
  bif (room ((([] : List Int) ++ a0).length + ([(128:Int)]).length) 1) then
  lp3 (w1, ((([] : List Int) ++ a0) ++ [(128:Int)]))
  else none
  else none)
theorem run (N : Nat) (o0 : Orc E R) (a0 : List Int) : runF T (G N) live [] Try.f91 code (sp N) o0 (a0, ()) = m0 N a0 (fun a => o0 loop3 (K3 N o0) (St3 a0 a)) := by kernel_rfl
theorem body3_0 (N : Nat) (o0 : Orc E R) (o1 : Orc E R) (q1 : St E → Option R) (a0 : List Int) (v1 : List Int) (v2 : List Int) : runA T (G N) live [] o1 body3 (St3 a0 (v1, v2)) (kloop [0, 3, 4] q1 (K3 N o0)) = step3 N a0 (fun a => o0 loop6 (K6 N o0) (St6 a0 a)) (fun a => q1 (St3 a0 a)) (v1, v2) := by kernel_rfl
theorem body6_0 (N : Nat) (o0 : Orc E R) (o1 : Orc E R) (q1 : St E → Option R) (a0 : List Int) (v1 : Int) (v2 : List Int) (v3 : List Int) : runA T (G N) live [] o1 body6 (St6 a0 (v1, v2, v3)) (kloop [0, 3, 4, 5] q1 (K6 N o0)) = step6 N a0 (fun a => o0 loop11 (K11 N o0) (St11 a0 a)) (fun a => q1 (St6 a0 a)) (v1, v2, v3) := by kernel_rfl
theorem body11_0 (N : Nat) (o0 : Orc E R) (o1 : Orc E R) (q1 : St E → Option R) (a0 : List Int) (v0 : Int) (v1 : List Int) (v2 : List Int) (v3 : List Int) : runA T (G N) live [] o1 body11 (St11 a0 (v0, v1, v2, v3)) (kloop [3, 4, 6, 7] q1 (K11 N o0)) = step11 N a0 (fun a => o0 loop16 (K16 N o0) (St16 a0 a)) (fun a => q1 (St11 a0 a)) (v0, v1, v2, v3) := by kernel_rfl
theorem body16_0 (N : Nat) (o0 : Orc E R) (o1 : Orc E R) (q1 : St E → Option R) (a0 : List Int) (v0 : Int) (v1 : List Int) (v2 : List Int) : runA T (G N) live [] o1 body16 (St16 a0 (v0, v1, v2)) (kloop [3, 8, 9] q1 (K16 N o0)) = step16 N a0 (fun a => q1 (St16 a0 a)) (v0, v1, v2) := by kernel_rfl
theorem lp16_eq (N : Nat) (a0 : List Int) (a : Int × (List Int) × (List Int)) : (orc T (G N) live [] N 2) loop16 (K16 N (orc T (G N) live [] N 2)) (St16 a0 a) = lp16 N a0 a :=
  (orc_loop (b := body16) (live := [3, 8, 9]) (by kernel_rfl)).trans (iter_eq (St16 a0) _ _ (fun q1 a => by
    have hc := congrFun (congrFun (rfl : (step16 N a0) = (step16 N a0)) (fun a => q1 (St16 a0 a))) a
    obtain ⟨u0, u1, u2⟩ := a
    exact (body16_0 N (orc T (G N) live [] N 2) (orc T (G N) live [] N 1) q1 a0 u0 u1 u2).trans hc) N a)
theorem lp11_eq (N : Nat) (a0 : List Int) (a : Int × (List Int) × (List Int) × (List Int)) : (orc T (G N) live [] N 2) loop11 (K11 N (orc T (G N) live [] N 2)) (St11 a0 a) = lp11 N a0 a :=
  (orc_loop (b := body11) (live := [3, 4, 6, 7]) (by kernel_rfl)).trans (iter_eq (St11 a0) _ _ (fun q1 a => by
    have hc := congrFun (congrFun (congrArg (step11 N a0) (funext fun a => lp16_eq N a0 a)) (fun a => q1 (St11 a0 a))) a
    obtain ⟨u0, u1, u2, u3⟩ := a
    exact (body11_0 N (orc T (G N) live [] N 2) (orc T (G N) live [] N 1) q1 a0 u0 u1 u2 u3).trans hc) N a)
theorem lp6_eq (N : Nat) (a0 : List Int) (a : Int × (List Int) × (List Int)) : (orc T (G N) live [] N 2) loop6 (K6 N (orc T (G N) live [] N 2)) (St6 a0 a) = lp6 N a0 a :=
  (orc_loop (b := body6) (live := [0, 3, 4, 5]) (by kernel_rfl)).trans (iter_eq (St6 a0) _ _ (fun q1 a => by
    have hc := congrFun (congrFun (congrArg (step6 N a0) (funext fun a => lp11_eq N a0 a)) (fun a => q1 (St6 a0 a))) a
    obtain ⟨u0, u1, u2⟩ := a
    exact (body6_0 N (orc T (G N) live [] N 2) (orc T (G N) live [] N 1) q1 a0 u0 u1 u2).trans hc) N a)
theorem lp3_eq (N : Nat) (a0 : List Int) (a : (List Int) × (List Int)) : (orc T (G N) live [] N 2) loop3 (K3 N (orc T (G N) live [] N 2)) (St3 a0 a) = lp3 N a0 a :=
  (orc_loop (b := body3) (live := [0, 3, 4]) (by kernel_rfl)).trans (iter_eq (St3 a0) _ _ (fun q1 a => by
    have hc := congrFun (congrFun (congrArg (step3 N a0) (funext fun a => lp6_eq N a0 a)) (fun a => q1 (St3 a0 a))) a
    obtain ⟨u0, u1⟩ := a
    exact (body3_0 N (orc T (G N) live [] N 2) (orc T (G N) live [] N 1) q1 a0 u0 u1).trans hc) N a)
theorem G_ok (N : Nat) : GamOK Try.prog (G N) := gam_ok (l := [(110, [], spec_l01Consts.sp N), (111, [], spec_l01Block.sp N)]) (⟨spec_l01Consts.snd N, spec_l01Block.snd N, trivial⟩)
theorem snd (N : Nat) : Sound Try.prog E 91 (sp N) :=
  Mir.sound T_OK (G_ok N) mixed Try.func91 (c := code) (by kernel_rfl) (by kernel_rfl) (sp N) (Nat.le_of_ble_eq_true (by kernel_rfl)) live [] (by
    rintro ⟨a0, _⟩ r h
    exact ⟨N, 2, ((run N _ a0).trans (congrArg (m0 N a0) (funext fun a => lp3_eq N a0 a))).trans h⟩)
end spec_l01Hash
end Mir.Y
