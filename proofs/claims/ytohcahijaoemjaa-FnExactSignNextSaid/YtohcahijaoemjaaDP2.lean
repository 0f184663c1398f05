/- The models are what the functions do. -/
import Derived.Test.YtohcahijaoemjaaDP1
import Derived.Test.YtohcahijaoemjaaDLays
namespace Mir.Y
set_option linter.unusedVariables false
set_option maxRecDepth 10000
open Go Go.Proofs Mir
namespace strings_Repeat
theorem repeatL_eq (l : List UInt8) : ∀ n, Go.Lib.repeatL l n = (List.replicate n l).flatten
  | 0 => rfl
  | n + 1 => by rw [List.replicate_succ, List.flatten_cons, ← repeatL_eq l n]; rfl
theorem str_of {W : World} {F : Nat → Prop} {s : ByteArray} {v : Value} (h : RoV E W F .str s v) : v = .string s := by
  obtain ⟨d, h⟩ := h; cases d <;> exact h
theorem int_of {W : World} {F : Nat → Prop} {k : IntKind} {n : Int} {v : Value} (h : RoV E W F (.int k) n v) : v = .int k n := by
  obtain ⟨d, h⟩ := h; cases d <;> exact h
theorem snd (N : Nat) : Sound Try.prog E 113 (sp N) := by
  refine ⟨fun args W => run_callFunc_go Try.func113 (c := Try.f113.body.getD .skip) (by kernel_rfl) (by kernel_rfl) args W, ?_⟩
  rintro W F ⟨a0, a1, _⟩ r args fp hfn ⟨v, vs, f1, f2, rfl, rfl, ⟨h0, rfl⟩, ⟨w, ws, g1, g2, rfl, rfl, ⟨h1, rfl⟩, ⟨rfl, rfl⟩⟩⟩ _ _ hF
  obtain rfl := str_of h0
  obtain rfl := int_of h1
  have hfn : (bif decide (0 ≤ a1) && decide (a1 ≤ 9223372036854775807) && decide (a0.size * a1.toNat ≤ 140737488355328) then some (rep a0 a1.toNat) else none) = some r := hfn
  cases hc : decide (0 ≤ a1) && decide (a1 ≤ 9223372036854775807) && decide (a0.size * a1.toNat ≤ 140737488355328) with
  | false => rw [hc] at hfn; cases hfn
  | true =>
    rw [hc, cond_true] at hfn
    cases hfn
    simp only [Bool.and_eq_true, decide_eq_true_eq] at hc
    obtain ⟨⟨c1, c2⟩, c3⟩ := hc
    obtain ⟨n, rfl⟩ := Int.eq_ofNat_of_zero_le c1
    have c2 : (n : Int) ≤ 9223372036854775807 := c2
    have c3 : a0.size * n ≤ 140737488355328 := c3
    have hcall := Go.Proofs.Any.strings_Repeat Try.repLays Try.repExtra a0 n W (by omega) c3
    refine (show Calls Try.prog 113 #[.string a0, .int .i64 n] W _ from hcall).mono ?_
    rintro e W' ⟨rfl, hb⟩
    refine ⟨_, rfl, ⟨F, [.string (rep a0 n)], [], [], ?_, fun b h => h, fun b h => ⟨.inl h, Nat.lt_of_lt_of_le (hF b h) hb.size⟩, ⟨_, [], [], [], rfl, rfl, ⟨rfl, rfl⟩, ⟨rfl, rfl⟩⟩, ⟨_, _, [], [], rfl, rfl, rfl, ⟨_, _, [], [], rfl, rfl, rfl, ⟨rfl, rfl⟩⟩⟩, List.nodup_nil, fun b h => by cases h⟩, hb.os, hb.tape, hb.output, hb.size, fun b h _ => hb.block b h⟩
    rw [repeatL_eq]; rfl
end strings_Repeat
namespace impl_number
noncomputable def code : Code := Try.f96.body.getD .skip
abbrev live : Live := [(3, [0, 5, 6])]
noncomputable def G (N : Nat) : Ctx E := gam []
noncomputable def loop3 : Code := codeAt code [1, 1, 0, 1, 0]
noncomputable def body3 : Code := codeAt loop3 [0]
noncomputable def K3 (N : Nat) (o0 : Orc E R) : KT E R := kAt T (G N) live [] o0 code [1, 1, 0, 1, 0] (kfin T Try.f96 (sp N))
noncomputable def St3 (a0 : Int) (a1 : Int) : (Int × Int × (List Int)) → St E
  | (v0, v1, v2) => { ρ := [(0, .c (.at (.int .i64 v0))), (5, .c (.at (.own 0))), (6, .c (.at (.int .i64 v1)))], H := [(0, .row 5 (.int .u8) v2 false)], nx := 1, n := 24, pin := [] }
noncomputable def m0 (N : Nat) (a0 : Int) (a1 : Int) (lp3 : Int × Int × (List Int) → Option R) : Option R :=
  bif (decide (0 ≤ a1)) then
  bif (room (Int.toNat a1) 1) then
  lp3 (a0, (w64 (a1 - (1:Int))), (List.replicate (Int.toNat a1) (0:Int)))
  else none
  else none
theorem run (N : Nat) (o0 : Orc E R) (a0 : Int) (a1 : Int) : runF T (G N) live [] Try.f96 code (sp N) o0 (a0, a1, ()) = m0 N a0 a1 (fun a => o0 loop3 (K3 N o0) (St3 a0 a1 a)) := by kernel_rfl
theorem body3_0 (N : Nat) (o0 : Orc E R) (o1 : Orc E R) (q1 : St E → Option R) (a0 : Int) (a1 : Int) (v0 : Int) (v1 : Int) (v2 : List Int) : runA T (G N) live [] o1 body3 (St3 a0 a1 (v0, v1, v2)) (kloop [0, 5, 6] q1 (K3 N o0)) = step3 N a0 a1 (fun a => q1 (St3 a0 a1 a)) (v0, v1, v2) := by kernel_rfl
theorem lp3_eq (N : Nat) (a0 : Int) (a1 : Int) (a : Int × Int × (List Int)) : (orc T (G N) live [] N 2) loop3 (K3 N (orc T (G N) live [] N 2)) (St3 a0 a1 a) = lp3 N a0 a1 a :=
  (orc_loop (b := body3) (live := [0, 5, 6]) (by kernel_rfl)).trans (iter_eq (St3 a0 a1) _ _ (fun q1 a => by
    have hc := congrFun (congrFun (rfl : (step3 N a0 a1) = (step3 N a0 a1)) (fun a => q1 (St3 a0 a1 a))) a
    obtain ⟨u0, u1, u2⟩ := a
    exact (body3_0 N (orc T (G N) live [] N 2) (orc T (G N) live [] N 1) q1 a0 a1 u0 u1 u2).trans hc) N a)
theorem G_ok (N : Nat) : GamOK Try.prog (G N) := gam_ok (l := []) (trivial)
theorem snd (N : Nat) : Sound Try.prog E 96 (sp N) :=
  Mir.sound T_OK (G_ok N) mixed Try.func96 (c := code) (by kernel_rfl) (by kernel_rfl) (sp N) (Nat.le_of_ble_eq_true (by kernel_rfl)) live [] (by
    rintro ⟨a0, a1, _⟩ r h
    exact ⟨N, 2, ((run N _ a0 a1).trans (congrArg (m0 N a0 a1) (funext fun a => lp3_eq N a0 a1 a))).trans h⟩)
end impl_number
namespace impl_hashWords
noncomputable def code : Code := Try.f114.body.getD .skip
abbrev live : Live := []
noncomputable def G (N : Nat) : Ctx E := gam []
noncomputable def m0 (N : Nat) : Option R :=
  (let w1 : List Int := [(1779033703:Int), (3144134277:Int), (1013904242:Int), (2773480762:Int), (1359893119:Int), (2600822924:Int), (528734635:Int), (1541459225:Int)]
  some w1)
theorem run (N : Nat) (o0 : Orc E R) : runF T (G N) live [] Try.f114 code (sp N) o0 () = m0 N := by kernel_rfl
theorem G_ok (N : Nat) : GamOK Try.prog (G N) := gam_ok (l := []) (trivial)
theorem snd (N : Nat) : Sound Try.prog E 114 (sp N) :=
  Mir.sound T_OK (G_ok N) mixed Try.func114 (c := code) (by kernel_rfl) (by kernel_rfl) (sp N) (Nat.le_of_ble_eq_true (by kernel_rfl)) live [] (by
    rintro _ r h
    exact ⟨N, 2, ((run N _).trans rfl).trans h⟩)
end impl_hashWords
namespace impl_roundWords
noncomputable def code : Code := Try.f115.body.getD .skip
abbrev live : Live := []
noncomputable def G (N : Nat) : Ctx E := gam []
noncomputable def m0 (N : Nat) : Option R :=
  (let w1 : List Int := [(1116352408:Int), (1899447441:Int), (3049323471:Int), (3921009573:Int), (961987163:Int), (1508970993:Int), (2453635748:Int), (2870763221:Int), (3624381080:Int), (310598401:Int), (607225278:Int), (1426881987:Int), (1925078388:Int), (2162078206:Int), (2614888103:Int), (3248222580:Int), (3835390401:Int), (4022224774:Int), (264347078:Int), (604807628:Int), (770255983:Int), (1249150122:Int), (1555081692:Int), (1996064986:Int), (2554220882:Int), (2821834349:Int), (2952996808:Int), (3210313671:Int), (3336571891:Int), (3584528711:Int), (113926993:Int), (338241895:Int), (666307205:Int), (773529912:Int), (1294757372:Int), (1396182291:Int), (1695183700:Int), (1986661051:Int), (2177026350:Int), (2456956037:Int), (2730485921:Int), (2820302411:Int), (3259730800:Int), (3345764771:Int), (3516065817:Int), (3600352804:Int), (4094571909:Int), (275423344:Int), (430227734:Int), (506948616:Int), (659060556:Int), (883997877:Int), (958139571:Int), (1322822218:Int), (1537002063:Int), (1747873779:Int), (1955562222:Int), (2024104815:Int), (2227730452:Int), (2361852424:Int), (2428436474:Int), (2756734187:Int), (3204031479:Int), (3329325298:Int)]
  some w1)
theorem run (N : Nat) (o0 : Orc E R) : runF T (G N) live [] Try.f115 code (sp N) o0 () = m0 N := by kernel_rfl
theorem G_ok (N : Nat) : GamOK Try.prog (G N) := gam_ok (l := []) (trivial)
theorem snd (N : Nat) : Sound Try.prog E 115 (sp N) :=
  Mir.sound T_OK (G_ok N) mixed Try.func115 (c := code) (by kernel_rfl) (by kernel_rfl) (sp N) (Nat.le_of_ble_eq_true (by kernel_rfl)) live [] (by
    rintro _ r h
    exact ⟨N, 2, ((run N _).trans rfl).trans h⟩)
end impl_roundWords
namespace math_bits_RotateLeft32
noncomputable def code : Code := Try.f135.body.getD .skip
abbrev live : Live := []
noncomputable def G (N : Nat) : Ctx E := gam []
noncomputable def m0 (N : Nat) (a0 : Int) (a1 : Int) : Option R :=
  bif (!decide ((ibit .and .u64 (wu64 a1) (31:Int)) < 0)) then
  bif (!decide ((wu64 ((32:Int) - (ibit .and .u64 (wu64 a1) (31:Int)))) < 0)) then
  (let w1 : Int := (ibit .or .u32 (wu32 (a0 * 2 ^ (min (Int.toNat (ibit .and .u64 (wu64 a1) (31:Int))) 32))) (Int.fdiv a0 (2 ^ (min (Int.toNat (wu64 ((32:Int) - (ibit .and .u64 (wu64 a1) (31:Int))))) 32))))
  some w1)
  else none
  else none
theorem run (N : Nat) (o0 : Orc E R) (a0 : Int) (a1 : Int) : runF T (G N) live [] Try.f135 code (sp N) o0 (a0, a1, ()) = m0 N a0 a1 := by kernel_rfl
theorem G_ok (N : Nat) : GamOK Try.prog (G N) := gam_ok (l := []) (trivial)
theorem snd (N : Nat) : Sound Try.prog E 135 (sp N) :=
  Mir.sound T_OK (G_ok N) mixed Try.func135 (c := code) (by kernel_rfl) (by kernel_rfl) (sp N) (Nat.le_of_ble_eq_true (by kernel_rfl)) live [] (by
    rintro ⟨a0, a1, _⟩ r h
    exact ⟨N, 2, ((run N _ a0 a1).trans rfl).trans h⟩)
end math_bits_RotateLeft32
namespace impl_turned
noncomputable def code : Code := Try.f127.body.getD .skip
abbrev live : Live := []
noncomputable def G (N : Nat) : Ctx E := gam [(135, [], math_bits_RotateLeft32.sp N)]
noncomputable def m0 (N : Nat) (a0 : Int) (a1 : Int) : Option R :=
  ob (math_bits_RotateLeft32.m N a0 (w64 (0 - a1))) fun y1 =>
  some y1
theorem run (N : Nat) (o0 : Orc E R) (a0 : Int) (a1 : Int) : runF T (G N) live [] Try.f127 code (sp N) o0 (a0, a1, ()) = m0 N a0 a1 := by kernel_rfl
theorem G_ok (N : Nat) : GamOK Try.prog (G N) := gam_ok (l := [(135, [], math_bits_RotateLeft32.sp N)]) (⟨math_bits_RotateLeft32.snd N, trivial⟩)
theorem snd (N : Nat) : Sound Try.prog E 127 (sp N) :=
  Mir.sound T_OK (G_ok N) mixed Try.func127 (c := code) (by kernel_rfl) (by kernel_rfl) (sp N) (Nat.le_of_ble_eq_true (by kernel_rfl)) live [] (by
    rintro ⟨a0, a1, _⟩ r h
    exact ⟨N, 2, ((run N _ a0 a1).trans rfl).trans h⟩)
end impl_turned
namespace impl_wordsOf
noncomputable def code : Code := Try.f126.body.getD .skip
abbrev live : Live := [(3, [0, 2, 3, 10])]
noncomputable def G (N : Nat) : Ctx E := gam [(127, [], impl_turned.sp N)]
noncomputable def loop3 : Code := codeAt code [1, 1, 0, 1, 0]
noncomputable def body3 : Code := codeAt loop3 [0]
noncomputable def K3 (N : Nat) (o0 : Orc E R) : KT E R := kAt T (G N) live [] o0 code [1, 1, 0, 1, 0] (kfin T Try.f126 (sp N))
noncomputable def St3 (a0 : ByteArray) : (Int × (List Int) × (List Int)) → St E
  | (v1, v2, v3) => { ρ := [(0, .c (.at (.str a0))), (2, .c (.at (.ptr 0 0))), (3, .c (.at (.ptr 1 0))), (10, .c (.at (.int .i64 v1)))], H := [(0, .arr 109 .u32 64 v2), (1, .arr 109 .u32 64 v3)], nx := 2, n := 87, pin := [] }
noncomputable def m0 (N : Nat) (a0 : ByteArray) (lp3 : Int × (List Int) × (List Int) → Option R) : Option R :=
  lp3 ((0:Int), (List.replicate 64 (0:Int)), (List.replicate 64 (0:Int)))
theorem run (N : Nat) (o0 : Orc E R) (a0 : ByteArray) : runF T (G N) live [] Try.f126 code (sp N) o0 (a0, ()) = m0 N a0 (fun a => o0 loop3 (K3 N o0) (St3 a0 a)) := by kernel_rfl
theorem body3_0 (N : Nat) (o0 : Orc E R) (o1 : Orc E R) (q1 : St E → Option R) (a0 : ByteArray) (v1 : Int) (v2 : List Int) (v3 : List Int) : runA T (G N) live [] o1 body3 (St3 a0 (v1, v2, v3)) (kloop [0, 2, 3, 10] q1 (K3 N o0)) = step3 N a0 (fun a => q1 (St3 a0 a)) (v1, v2, v3) := by kernel_rfl
theorem lp3_eq (N : Nat) (a0 : ByteArray) (a : Int × (List Int) × (List Int)) : (orc T (G N) live [] N 2) loop3 (K3 N (orc T (G N) live [] N 2)) (St3 a0 a) = lp3 N a0 a :=
  (orc_loop (b := body3) (live := [0, 2, 3, 10]) (by kernel_rfl)).trans (iter_eq (St3 a0) _ _ (fun q1 a => by
    have hc := congrFun (congrFun (rfl : (step3 N a0) = (step3 N a0)) (fun a => q1 (St3 a0 a))) a
    obtain ⟨u0, u1, u2⟩ := a
    exact (body3_0 N (orc T (G N) live [] N 2) (orc T (G N) live [] N 1) q1 a0 u0 u1 u2).trans hc) N a)
theorem G_ok (N : Nat) : GamOK Try.prog (G N) := gam_ok (l := [(127, [], impl_turned.sp N)]) (⟨impl_turned.snd N, trivial⟩)
theorem snd (N : Nat) : Sound Try.prog E 126 (sp N) :=
  Mir.sound T_OK (G_ok N) mixed Try.func126 (c := code) (by kernel_rfl) (by kernel_rfl) (sp N) (Nat.le_of_ble_eq_true (by kernel_rfl)) live [] (by
    rintro ⟨a0, _⟩ r h
    exact ⟨N, 2, ((run N _ a0).trans (congrArg (m0 N a0) (funext fun a => lp3_eq N a0 a))).trans h⟩)
end impl_wordsOf
namespace impl_blockHash
noncomputable def code : Code := Try.f116.body.getD .skip
abbrev live : Live := [(11, [3, 6, 7, 100]), (3, [3, 4, 6, 7, 8, 22])]
noncomputable def G (N : Nat) : Ctx E := gam [(126, [], impl_wordsOf.sp N), (127, [], impl_turned.sp N)]
noncomputable def loop3 : Code := codeAt code [1, 1, 0, 1, 0]
noncomputable def body3 : Code := codeAt loop3 [0]
noncomputable def loop11 : Code := codeAt code [1, 1, 1, 0, 1, 0]
noncomputable def body11 : Code := codeAt loop11 [0]
noncomputable def K3 (N : Nat) (o0 : Orc E R) : KT E R := kAt T (G N) live [] o0 code [1, 1, 0, 1, 0] (kfin T Try.f116 (sp N))
noncomputable def St3 (a0 : List Int) (a1 : List Int) (a2 : ByteArray) : (Int × (List Int) × (List Int) × (List Int)) → St E
  | (v0, v3, v4, v5) => { ρ := [(3, .c (.at (.ptr 0 0))), (4, .c (.at (.ptr 1 0))), (6, .c (.at (.ptr 2 0))), (7, .c (.at (.ptr 3 0))), (8, .c (.at (.ptr 4 0))), (22, .c (.at (.int .i64 v0)))], H := [(0, .arr 107 .u32 8 a0), (1, .arr 109 .u32 64 a1), (2, .arr 107 .u32 8 v3), (3, .arr 107 .u32 8 v4), (4, .arr 109 .u32 64 v5)], nx := 5, n := 113, pin := [] }
noncomputable def K11 (N : Nat) (o0 : Orc E R) : KT E R := kAt T (G N) live [] o0 code [1, 1, 1, 0, 1, 0] (kfin T Try.f116 (sp N))
noncomputable def St11 (a0 : List Int) (a1 : List Int) (a2 : ByteArray) : (Int × (List Int) × (List Int)) → St E
  | (v0, v2, v3) => { ρ := [(3, .c (.at (.ptr 0 0))), (6, .c (.at (.ptr 1 0))), (7, .c (.at (.ptr 2 0))), (100, .c (.at (.int .i64 v0)))], H := [(0, .arr 107 .u32 8 a0), (1, .arr 107 .u32 8 v2), (2, .arr 107 .u32 8 v3)], nx := 3, n := 113, pin := [] }
noncomputable def m0 (N : Nat) (a0 : List Int) (a1 : List Int) (a2 : ByteArray) (lp3 : Int × (List Int) × (List Int) × (List Int) → Option R) : Option R :=
  ob (impl_wordsOf.m N a2) fun y1 =>
  lp3 ((0:Int), (List.replicate 8 (0:Int)), a0, y1)
theorem run (N : Nat) (o0 : Orc E R) (a0 : List Int) (a1 : List Int) (a2 : ByteArray) : runF T (G N) live [] Try.f116 code (sp N) o0 (a0, a1, a2, ()) = m0 N a0 a1 a2 (fun a => o0 loop3 (K3 N o0) (St3 a0 a1 a2 a)) := by kernel_rfl
theorem body3_0 (N : Nat) (o0 : Orc E R) (o1 : Orc E R) (q1 : St E → Option R) (a0 : List Int) (a1 : List Int) (a2 : ByteArray) (v0 : Int) (v3 : List Int) (v4 : List Int) (v5 : List Int) : runA T (G N) live [] o1 body3 (St3 a0 a1 a2 (v0, v3, v4, v5)) (kloop [3, 4, 6, 7, 8, 22] q1 (K3 N o0)) = step3 N a0 a1 a2 (fun a => o0 loop11 (K11 N o0) (St11 a0 a1 a2 a)) (fun a => q1 (St3 a0 a1 a2 a)) (v0, v3, v4, v5) := by kernel_rfl
theorem body11_0 (N : Nat) (o0 : Orc E R) (o1 : Orc E R) (q1 : St E → Option R) (a0 : List Int) (a1 : List Int) (a2 : ByteArray) (v0 : Int) (v2 : List Int) (v3 : List Int) : runA T (G N) live [] o1 body11 (St11 a0 a1 a2 (v0, v2, v3)) (kloop [3, 6, 7, 100] q1 (K11 N o0)) = step11 N a0 a1 a2 (fun a => q1 (St11 a0 a1 a2 a)) (v0, v2, v3) := by kernel_rfl
theorem lp11_eq (N : Nat) (a0 : List Int) (a1 : List Int) (a2 : ByteArray) (a : Int × (List Int) × (List Int)) : (orc T (G N) live [] N 2) loop11 (K11 N (orc T (G N) live [] N 2)) (St11 a0 a1 a2 a) = lp11 N a0 a1 a2 a :=
  (orc_loop (b := body11) (live := [3, 6, 7, 100]) (by kernel_rfl)).trans (iter_eq (St11 a0 a1 a2) _ _ (fun q1 a => by
    have hc := congrFun (congrFun (rfl : (step11 N a0 a1 a2) = (step11 N a0 a1 a2)) (fun a => q1 (St11 a0 a1 a2 a))) a
    obtain ⟨u0, u1, u2⟩ := a
    exact (body11_0 N (orc T (G N) live [] N 2) (orc T (G N) live [] N 1) q1 a0 a1 a2 u0 u1 u2).trans hc) N a)
theorem lp3_eq (N : Nat) (a0 : List Int) (a1 : List Int) (a2 : ByteArray) (a : Int × (List Int) × (List Int) × (List Int)) : (orc T (G N) live [] N 2) loop3 (K3 N (orc T (G N) live [] N 2)) (St3 a0 a1 a2 a) = lp3 N a0 a1 a2 a :=
  (orc_loop (b := body3) (live := [3, 4, 6, 7, 8, 22]) (by kernel_rfl)).trans (iter_eq (St3 a0 a1 a2) _ _ (fun q1 a => by
    have hc := congrFun (congrFun (congrArg (step3 N a0 a1 a2) (funext fun a => lp11_eq N a0 a1 a2 a)) (fun a => q1 (St3 a0 a1 a2 a))) a
    obtain ⟨u0, u1, u2, u3⟩ := a
    exact (body3_0 N (orc T (G N) live [] N 2) (orc T (G N) live [] N 1) q1 a0 a1 a2 u0 u1 u2 u3).trans hc) N a)
theorem G_ok (N : Nat) : GamOK Try.prog (G N) := gam_ok (l := [(126, [], impl_wordsOf.sp N), (127, [], impl_turned.sp N)]) (⟨impl_wordsOf.snd N, impl_turned.snd N, trivial⟩)
theorem snd (N : Nat) : Sound Try.prog E 116 (sp N) :=
  Mir.sound T_OK (G_ok N) mixed Try.func116 (c := code) (by kernel_rfl) (by kernel_rfl) (sp N) (Nat.le_of_ble_eq_true (by kernel_rfl)) live [] (by
    rintro ⟨a0, a1, a2, _⟩ r h
    exact ⟨N, 2, ((run N _ a0 a1 a2).trans (congrArg (m0 N a0 a1 a2) (funext fun a => lp3_eq N a0 a1 a2 a))).trans h⟩)
end impl_blockHash
namespace impl_hash
noncomputable def code : Code := Try.f95.body.getD .skip
abbrev live : Live := [(9, [7, 40, 41]), (4, [3, 4, 5, 6])]
noncomputable def G (N : Nat) : Ctx E := gam [(113, [], strings_Repeat.sp N), (96, [], impl_number.sp N), (114, [], impl_hashWords.sp N), (115, [], impl_roundWords.sp N), (116, [], impl_blockHash.sp N)]
noncomputable def loop4 : Code := codeAt code [1, 1, 1, 0, 1, 0]
noncomputable def body4 : Code := codeAt loop4 [0]
noncomputable def loop9 : Code := codeAt code [1, 1, 1, 1, 1, 0, 1, 0]
noncomputable def body9 : Code := codeAt loop9 [0]
noncomputable def K4 (N : Nat) (o0 : Orc E R) : KT E R := kAt T (G N) live [] o0 code [1, 1, 1, 0, 1, 0] (kfin T Try.f95 (sp N))
noncomputable def St4 (a0 : ByteArray) : (ByteArray × Int × (List Int) × (List Int)) → St E
  | (v0, v1, v2, v3) => { ρ := [(3, .c (.at (.str v0))), (4, .c (.at (.ptr 0 0))), (5, .c (.at (.ptr 1 0))), (6, .c (.at (.int .i64 v1)))], H := [(0, .arr 107 .u32 8 v2), (1, .arr 109 .u32 64 v3)], nx := 2, n := 51, pin := [] }
noncomputable def K9 (N : Nat) (o0 : Orc E R) : KT E R := kAt T (G N) live [] o0 code [1, 1, 1, 1, 1, 0, 1, 0] (kfin T Try.f95 (sp N))
noncomputable def St9 (a0 : ByteArray) : (ByteArray × (List Int) × Int) → St E
  | (v0, v1, v2) => { ρ := [(7, .c (.at (.str v0))), (40, .c (.arr .u32 8 v1)), (41, .c (.at (.int .i64 v2)))], H := [], nx := 0, n := 51, pin := [] }
noncomputable def m0 (N : Nat) (a0 : ByteArray) (lp4 : ByteArray × Int × (List Int) × (List Int) → Option R) : Option R :=
  bif (decide (a0.size + (⟨#[128]⟩ : ByteArray).size ≤ 9223372036854775807)) then
  bif (!decide ((64:Int) = 0)) then
  bif (!decide ((64:Int) = 0)) then
  ob (strings_Repeat.m N (⟨#[0]⟩ : ByteArray) (Int.tmod (w64 ((119:Int) - (Int.tmod (a0.size : Int) (64:Int)))) (64:Int))) fun y1 =>
  bif (decide ((a0 ++ (⟨#[128]⟩ : ByteArray)).size + y1.size ≤ 9223372036854775807)) then
  ob (impl_number.m N (w64 ((8:Int) * (a0.size : Int))) (8:Int)) fun y2 =>
  bif (decide (((a0 ++ (⟨#[128]⟩ : ByteArray)) ++ y1).size + y2.size ≤ 9223372036854775807)) then
  ob (impl_hashWords.m N) fun y3 =>
  ob (impl_roundWords.m N) fun y4 =>
  lp4 ((((a0 ++ (⟨#[128]⟩ : ByteArray)) ++ y1) ++ y2), (0:Int), y3, y4)
  else none
  else none
  else none
  else none
  else none
theorem run (N : Nat) (o0 : Orc E R) (a0 : ByteArray) : runF T (G N) live [] Try.f95 code (sp N) o0 (a0, ()) = m0 N a0 (fun a => o0 loop4 (K4 N o0) (St4 a0 a)) := by kernel_rfl
theorem body4_0 (N : Nat) (o0 : Orc E R) (o1 : Orc E R) (q1 : St E → Option R) (a0 : ByteArray) (v0 : ByteArray) (v1 : Int) (v2 : List Int) (v3 : List Int) : runA T (G N) live [] o1 body4 (St4 a0 (v0, v1, v2, v3)) (kloop [3, 4, 5, 6] q1 (K4 N o0)) = step4 N a0 (fun a => o0 loop9 (K9 N o0) (St9 a0 a)) (fun a => q1 (St4 a0 a)) (v0, v1, v2, v3) := by kernel_rfl
theorem body9_0 (N : Nat) (o0 : Orc E R) (o1 : Orc E R) (q1 : St E → Option R) (a0 : ByteArray) (v0 : ByteArray) (v1 : List Int) (v2 : Int) : runA T (G N) live [] o1 body9 (St9 a0 (v0, v1, v2)) (kloop [7, 40, 41] q1 (K9 N o0)) = step9 N a0 (fun a => q1 (St9 a0 a)) (v0, v1, v2) := by kernel_rfl
theorem lp9_eq (N : Nat) (a0 : ByteArray) (a : ByteArray × (List Int) × Int) : (orc T (G N) live [] N 2) loop9 (K9 N (orc T (G N) live [] N 2)) (St9 a0 a) = lp9 N a0 a :=
  (orc_loop (b := body9) (live := [7, 40, 41]) (by kernel_rfl)).trans (iter_eq (St9 a0) _ _ (fun q1 a => by
    have hc := congrFun (congrFun (rfl : (step9 N a0) = (step9 N a0)) (fun a => q1 (St9 a0 a))) a
    obtain ⟨u0, u1, u2⟩ := a
    exact (body9_0 N (orc T (G N) live [] N 2) (orc T (G N) live [] N 1) q1 a0 u0 u1 u2).trans hc) N a)
theorem lp4_eq (N : Nat) (a0 : ByteArray) (a : ByteArray × Int × (List Int) × (List Int)) : (orc T (G N) live [] N 2) loop4 (K4 N (orc T (G N) live [] N 2)) (St4 a0 a) = lp4 N a0 a :=
  (orc_loop (b := body4) (live := [3, 4, 5, 6]) (by kernel_rfl)).trans (iter_eq (St4 a0) _ _ (fun q1 a => by
    have hc := congrFun (congrFun (congrArg (step4 N a0) (funext fun a => lp9_eq N a0 a)) (fun a => q1 (St4 a0 a))) a
    obtain ⟨u0, u1, u2, u3⟩ := a
    exact (body4_0 N (orc T (G N) live [] N 2) (orc T (G N) live [] N 1) q1 a0 u0 u1 u2 u3).trans hc) N a)
theorem G_ok (N : Nat) : GamOK Try.prog (G N) := gam_ok (l := [(113, [], strings_Repeat.sp N), (96, [], impl_number.sp N), (114, [], impl_hashWords.sp N), (115, [], impl_roundWords.sp N), (116, [], impl_blockHash.sp N)]) (⟨strings_Repeat.snd N, impl_number.snd N, impl_hashWords.snd N, impl_roundWords.snd N, impl_blockHash.snd N, trivial⟩)
theorem snd (N : Nat) : Sound Try.prog E 95 (sp N) :=
  Mir.sound T_OK (G_ok N) mixed Try.func95 (c := code) (by kernel_rfl) (by kernel_rfl) (sp N) (Nat.le_of_ble_eq_true (by kernel_rfl)) live [] (by
    rintro ⟨a0, _⟩ r h
    exact ⟨N, 2, ((run N _ a0).trans (congrArg (m0 N a0) (funext fun a => lp4_eq N a0 a))).trans h⟩)
end impl_hash
namespace impl_digits
noncomputable def code : Code := Try.f61.body.getD .skip
abbrev live : Live := [(4, [3, 4, 5, 12])]
noncomputable def G (N : Nat) : Ctx E := gam [(95, [], impl_hash.sp N)]
noncomputable def loop4 : Code := codeAt code [1, 1, 1, 0, 1, 0]
noncomputable def body4 : Code := codeAt loop4 [0]
noncomputable def K4 (N : Nat) (o0 : Orc E R) : KT E R := kAt T (G N) live [] o0 code [1, 1, 1, 0, 1, 0] (kfin T Try.f61 (sp N))
noncomputable def St4 (a0 : ByteArray) : (Int × ByteArray × Int × (List Int)) → St E
  | (v0, v1, v2, v3) => { ρ := [(3, .c (.at (.own 0))), (4, .c (.at (.int .i64 v0))), (5, .c (.at (.str v1))), (12, .c (.at (.int .i64 v2)))], H := [(0, .row 3 (.int .i64) v3 false)], nx := 1, n := 44, pin := [] }
noncomputable def m0 (N : Nat) (a0 : ByteArray) (lp4 : Int × ByteArray × Int × (List Int) → Option R) : Option R :=
  ob (impl_hash.m N a0) fun y1 =>
  lp4 ((0:Int), y1, (0:Int), ([] : List Int))
theorem run (N : Nat) (o0 : Orc E R) (a0 : ByteArray) : runF T (G N) live [] Try.f61 code (sp N) o0 (a0, ()) = m0 N a0 (fun a => o0 loop4 (K4 N o0) (St4 a0 a)) := by kernel_rfl
theorem body4_0 (N : Nat) (o0 : Orc E R) (o1 : Orc E R) (q1 : St E → Option R) (a0 : ByteArray) (v0 : Int) (v1 : ByteArray) (v2 : Int) (v3 : List Int) : runA T (G N) live [] o1 body4 (St4 a0 (v0, v1, v2, v3)) (kloop [3, 4, 5, 12] q1 (K4 N o0)) = step4 N a0 (fun a => q1 (St4 a0 a)) (v0, v1, v2, v3) := by kernel_rfl
theorem lp4_eq (N : Nat) (a0 : ByteArray) (a : Int × ByteArray × Int × (List Int)) : (orc T (G N) live [] N 2) loop4 (K4 N (orc T (G N) live [] N 2)) (St4 a0 a) = lp4 N a0 a :=
  (orc_loop (b := body4) (live := [3, 4, 5, 12]) (by kernel_rfl)).trans (iter_eq (St4 a0) _ _ (fun q1 a => by
    have hc := congrFun (congrFun (rfl : (step4 N a0) = (step4 N a0)) (fun a => q1 (St4 a0 a))) a
    obtain ⟨u0, u1, u2, u3⟩ := a
    exact (body4_0 N (orc T (G N) live [] N 2) (orc T (G N) live [] N 1) q1 a0 u0 u1 u2 u3).trans hc) N a)
theorem G_ok (N : Nat) : GamOK Try.prog (G N) := gam_ok (l := [(95, [], impl_hash.sp N)]) (⟨impl_hash.snd N, trivial⟩)
theorem snd (N : Nat) : Sound Try.prog E 61 (sp N) :=
  Mir.sound T_OK (G_ok N) mixed Try.func61 (c := code) (by kernel_rfl) (by kernel_rfl) (sp N) (Nat.le_of_ble_eq_true (by kernel_rfl)) live [] (by
    rintro ⟨a0, _⟩ r h
    exact ⟨N, 2, ((run N _ a0).trans (congrArg (m0 N a0) (funext fun a => lp4_eq N a0 a))).trans h⟩)
end impl_digits
namespace impl_chain
noncomputable def code : Code := Try.f55.body.getD .skip
abbrev live : Live := [(2, [0, 1, 2, 7])]
noncomputable def G (N : Nat) : Ctx E := gam [(96, [], impl_number.sp N), (95, [], impl_hash.sp N)]
noncomputable def loop2 : Code := codeAt code [1, 0, 1, 0]
noncomputable def body2 : Code := codeAt loop2 [0]
noncomputable def K2 (N : Nat) (o0 : Orc E R) : KT E R := kAt T (G N) live [] o0 code [1, 0, 1, 0] (kfin T Try.f55 (sp N))
noncomputable def St2 (a0 : ByteArray) (a1 : Int) (a2 : Int) : (ByteArray × Int) → St E
  | (v0, v3) => { ρ := [(0, .c (.at (.str v0))), (1, .c (.at (.int .i64 a1))), (2, .c (.at (.int .i64 a2))), (7, .c (.at (.int .i64 v3)))], H := [], nx := 0, n := 23, pin := [] }
noncomputable def m0 (N : Nat) (a0 : ByteArray) (a1 : Int) (a2 : Int) (lp2 : ByteArray × Int → Option R) : Option R :=
  lp2 (a0, a1)
theorem run (N : Nat) (o0 : Orc E R) (a0 : ByteArray) (a1 : Int) (a2 : Int) : runF T (G N) live [] Try.f55 code (sp N) o0 (a0, a1, a2, ()) = m0 N a0 a1 a2 (fun a => o0 loop2 (K2 N o0) (St2 a0 a1 a2 a)) := by kernel_rfl
theorem body2_0 (N : Nat) (o0 : Orc E R) (o1 : Orc E R) (q1 : St E → Option R) (a0 : ByteArray) (a1 : Int) (a2 : Int) (v0 : ByteArray) (v3 : Int) : runA T (G N) live [] o1 body2 (St2 a0 a1 a2 (v0, v3)) (kloop [0, 1, 2, 7] q1 (K2 N o0)) = step2 N a0 a1 a2 (fun a => q1 (St2 a0 a1 a2 a)) (v0, v3) := by kernel_rfl
theorem lp2_eq (N : Nat) (a0 : ByteArray) (a1 : Int) (a2 : Int) (a : ByteArray × Int) : (orc T (G N) live [] N 2) loop2 (K2 N (orc T (G N) live [] N 2)) (St2 a0 a1 a2 a) = lp2 N a0 a1 a2 a :=
  (orc_loop (b := body2) (live := [0, 1, 2, 7]) (by kernel_rfl)).trans (iter_eq (St2 a0 a1 a2) _ _ (fun q1 a => by
    have hc := congrFun (congrFun (rfl : (step2 N a0 a1 a2) = (step2 N a0 a1 a2)) (fun a => q1 (St2 a0 a1 a2 a))) a
    obtain ⟨u0, u1⟩ := a
    exact (body2_0 N (orc T (G N) live [] N 2) (orc T (G N) live [] N 1) q1 a0 a1 a2 u0 u1).trans hc) N a)
theorem G_ok (N : Nat) : GamOK Try.prog (G N) := gam_ok (l := [(96, [], impl_number.sp N), (95, [], impl_hash.sp N)]) (⟨impl_number.snd N, impl_hash.snd N, trivial⟩)
theorem snd (N : Nat) : Sound Try.prog E 55 (sp N) :=
  Mir.sound T_OK (G_ok N) mixed Try.func55 (c := code) (by kernel_rfl) (by kernel_rfl) (sp N) (Nat.le_of_ble_eq_true (by kernel_rfl)) live [] (by
    rintro ⟨a0, a1, a2, _⟩ r h
    exact ⟨N, 2, ((run N _ a0 a1 a2).trans (congrArg (m0 N a0 a1 a2) (funext fun a => lp2_eq N a0 a1 a2 a))).trans h⟩)
end impl_chain
namespace impl_endsLeaf
noncomputable def code : Code := Try.f98.body.getD .skip
abbrev live : Live := [(3, [3, 6, 7, 8])]
noncomputable def G (N : Nat) : Ctx E := gam [(95, [], impl_hash.sp N)]
noncomputable def loop3 : Code := codeAt code [1, 1, 0, 1, 0]
noncomputable def body3 : Code := codeAt loop3 [0]
noncomputable def K3 (N : Nat) (o0 : Orc E R) : KT E R := kAt T (G N) live [] o0 code [1, 1, 0, 1, 0] (kfin T Try.f98 (sp N))
noncomputable def St3 (a0 : List ByteArray) : (ByteArray × Int × Int) → St E
  | (v0, v2, v3) => { ρ := [(3, .c (.at (.str v0))), (6, .c (.at (.ro 9 .str a0))), (7, .c (.at (.int .i64 v2))), (8, .c (.at (.int .i64 v3)))], H := [], nx := 0, n := 18, pin := [] }
noncomputable def m0 (N : Nat) (a0 : List ByteArray) (lp3 : ByteArray × Int × Int → Option R) : Option R :=
  lp3 ((⟨#[5]⟩ : ByteArray), (a0.length : Int), (0:Int))
theorem run (N : Nat) (o0 : Orc E R) (a0 : List ByteArray) : runF T (G N) live [] Try.f98 code (sp N) o0 (a0, ()) = m0 N a0 (fun a => o0 loop3 (K3 N o0) (St3 a0 a)) := by kernel_rfl
theorem body3_0 (N : Nat) (o0 : Orc E R) (o1 : Orc E R) (q1 : St E → Option R) (a0 : List ByteArray) (v0 : ByteArray) (v2 : Int) (v3 : Int) : runA T (G N) live [] o1 body3 (St3 a0 (v0, v2, v3)) (kloop [3, 6, 7, 8] q1 (K3 N o0)) = step3 N a0 (fun a => q1 (St3 a0 a)) (v0, v2, v3) := by kernel_rfl
theorem lp3_eq (N : Nat) (a0 : List ByteArray) (a : ByteArray × Int × Int) : (orc T (G N) live [] N 2) loop3 (K3 N (orc T (G N) live [] N 2)) (St3 a0 a) = lp3 N a0 a :=
  (orc_loop (b := body3) (live := [3, 6, 7, 8]) (by kernel_rfl)).trans (iter_eq (St3 a0) _ _ (fun q1 a => by
    have hc := congrFun (congrFun (rfl : (step3 N a0) = (step3 N a0)) (fun a => q1 (St3 a0 a))) a
    obtain ⟨u0, u1, u2⟩ := a
    exact (body3_0 N (orc T (G N) live [] N 2) (orc T (G N) live [] N 1) q1 a0 u0 u1 u2).trans hc) N a)
theorem G_ok (N : Nat) : GamOK Try.prog (G N) := gam_ok (l := [(95, [], impl_hash.sp N)]) (⟨impl_hash.snd N, trivial⟩)
theorem snd (N : Nat) : Sound Try.prog E 98 (sp N) :=
  Mir.sound T_OK (G_ok N) mixed Try.func98 (c := code) (by kernel_rfl) (by kernel_rfl) (sp N) (Nat.le_of_ble_eq_true (by kernel_rfl)) live [] (by
    rintro ⟨a0, _⟩ r h
    exact ⟨N, 2, ((run N _ a0).trans (congrArg (m0 N a0) (funext fun a => lp3_eq N a0 a))).trans h⟩)
end impl_endsLeaf
namespace impl_split
noncomputable def code : Code := Try.f101.body.getD .skip
abbrev live : Live := [(2, [0, 3])]
noncomputable def G (N : Nat) : Ctx E := gam []
noncomputable def loop2 : Code := codeAt code [1, 1, 0, 0]
noncomputable def body2 : Code := codeAt loop2 [0]
noncomputable def K2 (N : Nat) (o0 : Orc E R) : KT E R := kAt T (G N) live [] o0 code [1, 1, 0, 0] (kfin T Try.f101 (sp N))
noncomputable def St2 (a0 : Int) : Int → St E
  | v1 => { ρ := [(0, .c (.at (.int .i64 a0))), (3, .c (.at (.int .i64 v1)))], H := [], nx := 0, n := 11, pin := [] }
noncomputable def m0 (N : Nat) (a0 : Int) (lp2 : Int → Option R) : Option R :=
  lp2 (1:Int)
theorem run (N : Nat) (o0 : Orc E R) (a0 : Int) : runF T (G N) live [] Try.f101 code (sp N) o0 (a0, ()) = m0 N a0 (fun a => o0 loop2 (K2 N o0) (St2 a0 a)) := by kernel_rfl
theorem body2_0 (N : Nat) (o0 : Orc E R) (o1 : Orc E R) (q1 : St E → Option R) (a0 : Int) (v1 : Int) : runA T (G N) live [] o1 body2 (St2 a0 v1) (kloop [0, 3] q1 (K2 N o0)) = step2 N a0 (fun a => q1 (St2 a0 a)) v1 := by kernel_rfl
theorem lp2_eq (N : Nat) (a0 : Int) (a : Int) : (orc T (G N) live [] N 2) loop2 (K2 N (orc T (G N) live [] N 2)) (St2 a0 a) = lp2 N a0 a :=
  (orc_loop (b := body2) (live := [0, 3]) (by kernel_rfl)).trans (iter_eq (St2 a0) _ _ (fun q1 a => by
    have hc := congrFun (congrFun (rfl : (step2 N a0) = (step2 N a0)) (fun a => q1 (St2 a0 a))) a
    exact (body2_0 N (orc T (G N) live [] N 2) (orc T (G N) live [] N 1) q1 a0 a).trans hc) N a)
theorem G_ok (N : Nat) : GamOK Try.prog (G N) := gam_ok (l := []) (trivial)
theorem snd (N : Nat) : Sound Try.prog E 101 (sp N) :=
  Mir.sound T_OK (G_ok N) mixed Try.func101 (c := code) (by kernel_rfl) (by kernel_rfl) (sp N) (Nat.le_of_ble_eq_true (by kernel_rfl)) live [] (by
    rintro ⟨a0, _⟩ r h
    exact ⟨N, 2, ((run N _ a0).trans (congrArg (m0 N a0) (funext fun a => lp2_eq N a0 a))).trans h⟩)
end impl_split
namespace impl_prover_next_
noncomputable def code : Code := Try.f129.body.getD .skip
abbrev live : Live := []
noncomputable def G (N : Nat) : Ctx E := gam []
noncomputable def m0 (N : Nat) (a0 : prover) : Option R :=
  bif ((a0.proof.length : Int) == (0:Int)) then
    some (ByteArray.empty, (prover.mk a0.proof true a0.steps))
  else
  bif (decide (0 ≤ (0:Int))) then
  bif (decide ((0:Int) < (a0.proof.length : Int))) then
  bif (decide (0 ≤ (1:Int))) then
  bif (decide ((1:Int) ≤ ((a0.proof.length : Nat) : Int))) then
  some ((a0.proof.getD 0 ByteArray.empty), (prover.mk (a0.proof.drop 1) a0.bad a0.steps))
  else none
  else none
  else none
  else none
theorem run (N : Nat) (o0 : Orc E R) (a0 : prover) : runF T (G N) live [] Try.f129 code (sp N) o0 (a0, ()) = m0 N a0 := by kernel_rfl
theorem G_ok (N : Nat) : GamOK Try.prog (G N) := gam_ok (l := []) (trivial)
theorem snd (N : Nat) : Sound Try.prog E 129 (sp N) :=
  Mir.sound T_OK (G_ok N) mixed Try.func129 (c := code) (by kernel_rfl) (by kernel_rfl) (sp N) (Nat.le_of_ble_eq_true (by kernel_rfl)) live [] (by
    rintro ⟨a0, _⟩ r h
    exact ⟨N, 2, ((run N _ a0).trans rfl).trans h⟩)
end impl_prover_next_
namespace impl_nodeHash
noncomputable def code : Code := Try.f102.body.getD .skip
abbrev live : Live := []
noncomputable def G (N : Nat) : Ctx E := gam [(95, [], impl_hash.sp N)]
noncomputable def m0 (N : Nat) (a0 : ByteArray) (a1 : ByteArray) : Option R :=
  bif (decide ((⟨#[1]⟩ : ByteArray).size + a0.size ≤ 9223372036854775807)) then
  bif (decide (((⟨#[1]⟩ : ByteArray) ++ a0).size + a1.size ≤ 9223372036854775807)) then
  ob (impl_hash.m N (((⟨#[1]⟩ : ByteArray) ++ a0) ++ a1)) fun y1 =>
  some y1
  else none
  else none
theorem run (N : Nat) (o0 : Orc E R) (a0 : ByteArray) (a1 : ByteArray) : runF T (G N) live [] Try.f102 code (sp N) o0 (a0, a1, ()) = m0 N a0 a1 := by kernel_rfl
theorem G_ok (N : Nat) : GamOK Try.prog (G N) := gam_ok (l := [(95, [], impl_hash.sp N)]) (⟨impl_hash.snd N, trivial⟩)
theorem snd (N : Nat) : Sound Try.prog E 102 (sp N) :=
  Mir.sound T_OK (G_ok N) mixed Try.func102 (c := code) (by kernel_rfl) (by kernel_rfl) (sp N) (Nat.le_of_ble_eq_true (by kernel_rfl)) live [] (by
    rintro ⟨a0, a1, _⟩ r h
    exact ⟨N, 2, ((run N _ a0 a1).trans rfl).trans h⟩)
end impl_nodeHash
namespace impl_prover_node
noncomputable def code : Code := Try.f128.body.getD .skip
abbrev live : Live := []
noncomputable def G (N : Nat) : Ctx E := gam [(102, [], impl_nodeHash.sp N)]
noncomputable def m0 (N : Nat) (a0 : prover) (a1 : ByteArray) (a2 : ByteArray) : Option R :=
  bif (decide ((⟨#[1]⟩ : ByteArray).size + a1.size ≤ 9223372036854775807)) then
  bif (decide (((⟨#[1]⟩ : ByteArray) ++ a1).size + a2.size ≤ 9223372036854775807)) then
  bif (room (a0.steps.length + ([(((⟨#[1]⟩ : ByteArray) ++ a1) ++ a2)]).length) 16) then
  ob (impl_nodeHash.m N a1 a2) fun y1 =>
  some (y1, (prover.mk a0.proof a0.bad (a0.steps ++ [(((⟨#[1]⟩ : ByteArray) ++ a1) ++ a2)])))
  else none
  else none
  else none
theorem run (N : Nat) (o0 : Orc E R) (a0 : prover) (a1 : ByteArray) (a2 : ByteArray) : runF T (G N) live [] Try.f128 code (sp N) o0 (a0, a1, a2, ()) = m0 N a0 a1 a2 := by kernel_rfl
theorem G_ok (N : Nat) : GamOK Try.prog (G N) := gam_ok (l := [(102, [], impl_nodeHash.sp N)]) (⟨impl_nodeHash.snd N, trivial⟩)
theorem snd (N : Nat) : Sound Try.prog E 128 (sp N) :=
  Mir.sound T_OK (G_ok N) mixed Try.func128 (c := code) (by kernel_rfl) (by kernel_rfl) (sp N) (Nat.le_of_ble_eq_true (by kernel_rfl)) live [] (by
    rintro ⟨a0, a1, a2, _⟩ r h
    exact ⟨N, 2, ((run N _ a0 a1 a2).trans rfl).trans h⟩)
end impl_prover_node
namespace impl_prover_inclusion
noncomputable def code : Code := Try.f118.body.getD .skip
abbrev live : Live := []
noncomputable def G (N : Nat) (slf : prover → ByteArray → Int → Int → Option R) : Ctx E := gam [(101, [], impl_split.sp N), (118, [], spf slf), (129, [], impl_prover_next_.sp N), (128, [], impl_prover_node.sp N)]
noncomputable def m0 (N : Nat) (slf : prover → ByteArray → Int → Int → Option R) (a0 : prover) (a1 : ByteArray) (a2 : Int) (a3 : Int) : Option R :=
  bif (decide (a3 ≤ (1:Int))) then
    some (a1, a0)
  else
  ob (impl_split.m N a3) fun y1 =>
  bif (decide (a2 < y1)) then
    ob (slf a0 a1 a2 y1) fun y2 =>
    ob (impl_prover_next_.m N y2.2) fun y3 =>
    ob (impl_prover_node.m N y3.2 y2.1 y3.1) fun y4 =>
    some (y4.1, y4.2)
  else
  ob (slf a0 a1 (w64 (a2 - y1)) (w64 (a3 - y1))) fun y5 =>
  ob (impl_prover_next_.m N y5.2) fun y6 =>
  ob (impl_prover_node.m N y6.2 y6.1 y5.1) fun y7 =>
  some (y7.1, y7.2)
theorem run (N : Nat) (o0 : Orc E R) (slf : prover → ByteArray → Int → Int → Option R) (a0 : prover) (a1 : ByteArray) (a2 : Int) (a3 : Int) : runF T (G N slf) live [] Try.f118 code (spf (mb N slf)) o0 (a0, a1, a2, a3, ()) = m0 N slf a0 a1 a2 a3 := by kernel_rfl
theorem G_ok (N : Nat) (slf : prover → ByteArray → Int → Int → Option R) (hs : Sound Try.prog E 118 (spf slf)) : GamOK Try.prog (G N slf) := gam_ok (l := [(101, [], impl_split.sp N), (118, [], spf slf), (129, [], impl_prover_next_.sp N), (128, [], impl_prover_node.sp N)]) (⟨impl_split.snd N, hs, impl_prover_next_.snd N, impl_prover_node.snd N, trivial⟩)
theorem sndF (N : Nat) : ∀ n, Sound Try.prog E 118 (spf (mF N n))
  | 0 => sound_none Try.func118 (c := code) (by kernel_rfl) (by kernel_rfl) (spf (mF N 0)) (fun _ => rfl)
  | n + 1 => by
    have hr := fun (a0 : prover) (a1 : ByteArray) (a2 : Int) (a3 : Int) => (run N (orc T (G N (mF N n)) live [] N 2) (mF N n) a0 a1 a2 a3).trans rfl
    exact Mir.sound T_OK (G_ok N (mF N n) (sndF N n)) mixed Try.func118 (c := code) (by kernel_rfl) (by kernel_rfl) (spf (mF N (n + 1))) (Nat.le_of_ble_eq_true (by kernel_rfl)) live [] (by
      rintro ⟨a0, a1, a2, a3, _⟩ r h
      exact ⟨N, 2, (hr a0 a1 a2 a3).trans h⟩)
theorem snd (N : Nat) : Sound Try.prog E 118 (sp N) := sndF N N
end impl_prover_inclusion
namespace impl_inclusionRoot
noncomputable def code : Code := Try.f108.body.getD .skip
abbrev live : Live := []
noncomputable def G (N : Nat) : Ctx E := gam [(54, [], impl_within.sp N), (118, [], impl_prover_inclusion.sp N)]
noncomputable def m0 (N : Nat) (a0 : ByteArray) (a1 : Int) (a2 : Int) (a3 : List ByteArray) : Option R :=
  ob (impl_within.m N a2 (1:Int) (64:Int)) fun y1 =>
  bif (!y1) then
    some (ByteArray.empty, ([] : List ByteArray), (4:Int))
  else
  ob (impl_within.m N a1 (0:Int) (w64 (a2 - (1:Int)))) fun y2 =>
  bif (bif false then true else (!y2)) then
    some (ByteArray.empty, ([] : List ByteArray), (4:Int))
  else
  ob (impl_prover_inclusion.m N (prover.mk a3 false ([] : List ByteArray)) a0 a1 a2) fun y3 =>
  bif y3.2.bad then
    some (ByteArray.empty, ([] : List ByteArray), (10:Int))
  else
  bif (bif false then true else (decide ((y3.2.proof.length : Int) > (0:Int)))) then
    some (ByteArray.empty, ([] : List ByteArray), (10:Int))
  else
  some (y3.1, y3.2.steps, (0:Int))
theorem run (N : Nat) (o0 : Orc E R) (a0 : ByteArray) (a1 : Int) (a2 : Int) (a3 : List ByteArray) : runF T (G N) live [] Try.f108 code (sp N) o0 (a0, a1, a2, a3, ()) = m0 N a0 a1 a2 a3 := by kernel_rfl
theorem G_ok (N : Nat) : GamOK Try.prog (G N) := gam_ok (l := [(54, [], impl_within.sp N), (118, [], impl_prover_inclusion.sp N)]) (⟨impl_within.snd N, impl_prover_inclusion.snd N, trivial⟩)
theorem snd (N : Nat) : Sound Try.prog E 108 (sp N) :=
  Mir.sound T_OK (G_ok N) mixed Try.func108 (c := code) (by kernel_rfl) (by kernel_rfl) (sp N) (Nat.le_of_ble_eq_true (by kernel_rfl)) live [] (by
    rintro ⟨a0, a1, a2, a3, _⟩ r h
    exact ⟨N, 2, ((run N _ a0 a1 a2 a3).trans rfl).trans h⟩)
end impl_inclusionRoot
namespace impl_Signature_leadsTo
noncomputable def code : Code := Try.f81.body.getD .skip
abbrev live : Live := [(3, [1, 3, 8, 16, 17, 18])]
noncomputable def G (N : Nat) : Ctx E := gam [(61, [], impl_digits.sp N), (55, [], impl_chain.sp N), (98, [], impl_endsLeaf.sp N), (108, [], impl_inclusionRoot.sp N)]
noncomputable def loop3 : Code := codeAt code [1, 1, 0, 1, 0]
noncomputable def body3 : Code := codeAt loop3 [0]
noncomputable def K3 (N : Nat) (o0 : Orc E R) : KT E R := kAt T (G N) live [] o0 code [1, 1, 0, 1, 0] (kfin T Try.f81 (sp N))
noncomputable def St3 (a0 : Signature) (a1 : ByteArray) (a2 : ByteArray) : (Int × Int × (List ByteArray) × (List Int)) → St E
  | (v1, v2, v6, v7) => { ρ := [(1, .c (.at (.str a1))), (3, .c (.at (.ptr 0 0))), (8, .c (.at (.own 1))), (16, .c (.at (.own 2))), (17, .c (.at (.int .i64 v1))), (18, .c (.at (.int .i64 v2)))], H := [(0, .box 44 [.int .i64 a0.Index, .ro 9 .str a0.Parts, .ro 9 .str a0.Path]), (1, .row 9 .str v6 false), (2, .row 3 (.int .i64) v7 false)], nx := 3, n := 52, pin := [] }
noncomputable def m0 (N : Nat) (a0 : Signature) (a1 : ByteArray) (a2 : ByteArray) (lp3 : Int × Int × (List ByteArray) × (List Int) → Option R) : Option R :=
  ob (impl_digits.m N a2) fun y1 =>
  lp3 ((y1.length : Int), (0:Int), ([] : List ByteArray), y1)
theorem run (N : Nat) (o0 : Orc E R) (a0 : Signature) (a1 : ByteArray) (a2 : ByteArray) : runF T (G N) live [] Try.f81 code (sp N) o0 (a0, a1, a2, ()) = m0 N a0 a1 a2 (fun a => o0 loop3 (K3 N o0) (St3 a0 a1 a2 a)) := by kernel_rfl
theorem body3_0 (N : Nat) (o0 : Orc E R) (o1 : Orc E R) (q1 : St E → Option R) (a0 : Signature) (a1 : ByteArray) (a2 : ByteArray) (v1 : Int) (v2 : Int) (v6 : List ByteArray) (v7 : List Int) : runA T (G N) live [] o1 body3 (St3 a0 a1 a2 (v1, v2, v6, v7)) (kloop [1, 3, 8, 16, 17, 18] q1 (K3 N o0)) = step3 N a0 a1 a2 (fun a => q1 (St3 a0 a1 a2 a)) (v1, v2, v6, v7) := by kernel_rfl
theorem lp3_eq (N : Nat) (a0 : Signature) (a1 : ByteArray) (a2 : ByteArray) (a : Int × Int × (List ByteArray) × (List Int)) : (orc T (G N) live [] N 2) loop3 (K3 N (orc T (G N) live [] N 2)) (St3 a0 a1 a2 a) = lp3 N a0 a1 a2 a :=
  (orc_loop (b := body3) (live := [1, 3, 8, 16, 17, 18]) (by kernel_rfl)).trans (iter_eq (St3 a0 a1 a2) _ _ (fun q1 a => by
    have hc := congrFun (congrFun (rfl : (step3 N a0 a1 a2) = (step3 N a0 a1 a2)) (fun a => q1 (St3 a0 a1 a2 a))) a
    obtain ⟨u0, u1, u2, u3⟩ := a
    exact (body3_0 N (orc T (G N) live [] N 2) (orc T (G N) live [] N 1) q1 a0 a1 a2 u0 u1 u2 u3).trans hc) N a)
theorem G_ok (N : Nat) : GamOK Try.prog (G N) := gam_ok (l := [(61, [], impl_digits.sp N), (55, [], impl_chain.sp N), (98, [], impl_endsLeaf.sp N), (108, [], impl_inclusionRoot.sp N)]) (⟨impl_digits.snd N, impl_chain.snd N, impl_endsLeaf.snd N, impl_inclusionRoot.snd N, trivial⟩)
theorem snd (N : Nat) : Sound Try.prog E 81 (sp N) :=
  Mir.sound T_OK (G_ok N) mixed Try.func81 (c := code) (by kernel_rfl) (by kernel_rfl) (sp N) (Nat.le_of_ble_eq_true (by kernel_rfl)) live [] (by
    rintro ⟨a0, a1, a2, _⟩ r h
    exact ⟨N, 2, ((run N _ a0 a1 a2).trans (congrArg (m0 N a0 a1 a2) (funext fun a => lp3_eq N a0 a1 a2 a))).trans h⟩)
end impl_Signature_leadsTo
namespace impl_VerifySignature
noncomputable def code : Code := Try.f38.body.getD .skip
abbrev live : Live := []
noncomputable def G (N : Nat) : Ctx E := gam [(52, [], impl_isText.sp N), (80, [], impl_isList_string.sp N), (53, [], impl_isHash.sp N), (54, [], impl_within.sp N), (81, [], impl_Signature_leadsTo.sp N)]
noncomputable def m0 (N : Nat) (a0 : ByteArray) (a1 : ByteArray) (a2 : Signature) : Option R :=
  ob (impl_isText.m N ([a0, a1])) fun y1 =>
  bif (!y1) then
    some (2:Int)
  else
  ob (impl_isList_string.m N a2.Parts) fun y2 =>
  bif (bif false then true else (!y2)) then
    some (2:Int)
  else
  ob (impl_isList_string.m N a2.Path) fun y3 =>
  bif (bif false then true else (!y3)) then
    some (2:Int)
  else
  ob (impl_isHash.m N ([a0])) fun y4 =>
  bif (!y4) then
    some (1:Int)
  else
  (let w5 : Bool := (bif false then true else (decide ((if (a2.Parts.length : Int) < (a2.Path.length : Int) then (a2.Path.length : Int) else (a2.Parts.length : Int)) > (64:Int))))
  bif w5 then
    some (1:Int)
  else
  ob (impl_isHash.m N a2.Parts) fun y6 =>
  bif (bif false then true else (!y6)) then
    some (1:Int)
  else
  ob (impl_isHash.m N a2.Path) fun y7 =>
  bif (bif false then true else (!y7)) then
    some (1:Int)
  else
  ob (impl_within.m N a2.Index (0:Int) (3:Int)) fun y8 =>
  bif (!y8) then
    some (4:Int)
  else
  bif (bif false then true else ((a2.Parts.length : Int) != (18:Int))) then
    some (4:Int)
  else
  ob (impl_Signature_leadsTo.m N a2 a0 a1) fun y9 =>
  bif (!y9.2) then
    some (10:Int)
  else
  bif (!y9.1) then
    some (12:Int)
  else
  some (0:Int))
theorem run (N : Nat) (o0 : Orc E R) (a0 : ByteArray) (a1 : ByteArray) (a2 : Signature) : runF T (G N) live [] Try.f38 code (sp N) o0 (a0, a1, a2, ()) = m0 N a0 a1 a2 := by kernel_rfl
theorem G_ok (N : Nat) : GamOK Try.prog (G N) := gam_ok (l := [(52, [], impl_isText.sp N), (80, [], impl_isList_string.sp N), (53, [], impl_isHash.sp N), (54, [], impl_within.sp N), (81, [], impl_Signature_leadsTo.sp N)]) (⟨impl_isText.snd N, impl_isList_string.snd N, impl_isHash.snd N, impl_within.snd N, impl_Signature_leadsTo.snd N, trivial⟩)
theorem snd (N : Nat) : Sound Try.prog E 38 (sp N) :=
  Mir.sound T_OK (G_ok N) mixed Try.func38 (c := code) (by kernel_rfl) (by kernel_rfl) (sp N) (Nat.le_of_ble_eq_true (by kernel_rfl)) live [] (by
    rintro ⟨a0, a1, a2, _⟩ r h
    exact ⟨N, 2, ((run N _ a0 a1 a2).trans rfl).trans h⟩)
end impl_VerifySignature
namespace laws_eqStringS
noncomputable def code : Code := Try.f82.body.getD .skip
abbrev live : Live := [(4, [0, 1, 5])]
noncomputable def G (N : Nat) : Ctx E := gam []
noncomputable def loop4 : Code := codeAt code [1, 1, 0, 1, 0]
noncomputable def body4 : Code := codeAt loop4 [0]
noncomputable def K4 (N : Nat) (o0 : Orc E R) : KT E R := kAt T (G N) live [] o0 code [1, 1, 0, 1, 0] (kfin T Try.f82 (sp N))
noncomputable def St4 (a0 : List ByteArray) (a1 : List ByteArray) : Int → St E
  | v2 => { ρ := [(0, .c (.at (.ro 9 .str a0))), (1, .c (.at (.ro 9 .str a1))), (5, .c (.at (.int .i64 v2)))], H := [], nx := 0, n := 26, pin := [] }
noncomputable def m0 (N : Nat) (a0 : List ByteArray) (a1 : List ByteArray) (lp4 : Int → Option R) : Option R :=
  bif ((a0.length : Int) != (a1.length : Int)) then
    some false
  else
  lp4 (0:Int)
theorem run (N : Nat) (o0 : Orc E R) (a0 : List ByteArray) (a1 : List ByteArray) : runF T (G N) live [] Try.f82 code (sp N) o0 (a0, a1, ()) = m0 N a0 a1 (fun a => o0 loop4 (K4 N o0) (St4 a0 a1 a)) := by kernel_rfl
theorem body4_0 (N : Nat) (o0 : Orc E R) (o1 : Orc E R) (q1 : St E → Option R) (a0 : List ByteArray) (a1 : List ByteArray) (v2 : Int) : runA T (G N) live [] o1 body4 (St4 a0 a1 v2) (kloop [0, 1, 5] q1 (K4 N o0)) = step4 N a0 a1 (fun a => q1 (St4 a0 a1 a)) v2 := by kernel_rfl
theorem lp4_eq (N : Nat) (a0 : List ByteArray) (a1 : List ByteArray) (a : Int) : (orc T (G N) live [] N 2) loop4 (K4 N (orc T (G N) live [] N 2)) (St4 a0 a1 a) = lp4 N a0 a1 a :=
  (orc_loop (b := body4) (live := [0, 1, 5]) (by kernel_rfl)).trans (iter_eq (St4 a0 a1) _ _ (fun q1 a => by
    have hc := congrFun (congrFun (rfl : (step4 N a0 a1) = (step4 N a0 a1)) (fun a => q1 (St4 a0 a1 a))) a
    exact (body4_0 N (orc T (G N) live [] N 2) (orc T (G N) live [] N 1) q1 a0 a1 a).trans hc) N a)
theorem G_ok (N : Nat) : GamOK Try.prog (G N) := gam_ok (l := []) (trivial)
theorem snd (N : Nat) : Sound Try.prog E 82 (sp N) :=
  Mir.sound T_OK (G_ok N) mixed Try.func82 (c := code) (by kernel_rfl) (by kernel_rfl) (sp N) (Nat.le_of_ble_eq_true (by kernel_rfl)) live [] (by
    rintro ⟨a0, a1, _⟩ r h
    exact ⟨N, 2, ((run N _ a0 a1).trans (congrArg (m0 N a0 a1) (funext fun a => lp4_eq N a0 a1 a))).trans h⟩)
end laws_eqStringS
namespace laws_eqSignature
noncomputable def code : Code := Try.f39.body.getD .skip
abbrev live : Live := []
noncomputable def G (N : Nat) : Ctx E := gam [(82, [], laws_eqStringS.sp N)]
noncomputable def m0 (N : Nat) (a0 : Signature) (a1 : Signature) : Option R :=
  bif (a0.Index != a1.Index) then
    some false
  else
  ob (laws_eqStringS.m N a0.Parts a1.Parts) fun y1 =>
  bif (!y1) then
    some false
  else
  ob (laws_eqStringS.m N a0.Path a1.Path) fun y2 =>
  bif (!y2) then
    some false
  else
  some true
theorem run (N : Nat) (o0 : Orc E R) (a0 : Signature) (a1 : Signature) : runF T (G N) live [] Try.f39 code (sp N) o0 (a0, a1, ()) = m0 N a0 a1 := by kernel_rfl
theorem G_ok (N : Nat) : GamOK Try.prog (G N) := gam_ok (l := [(82, [], laws_eqStringS.sp N)]) (⟨laws_eqStringS.snd N, trivial⟩)
theorem snd (N : Nat) : Sound Try.prog E 39 (sp N) :=
  Mir.sound T_OK (G_ok N) mixed Try.func39 (c := code) (by kernel_rfl) (by kernel_rfl) (sp N) (Nat.le_of_ble_eq_true (by kernel_rfl)) live [] (by
    rintro ⟨a0, a1, _⟩ r h
    exact ⟨N, 2, ((run N _ a0 a1).trans rfl).trans h⟩)
end laws_eqSignature
namespace laws_FnExactVerifySignature
noncomputable def code : Code := Try.f10.body.getD .skip
abbrev live : Live := []
noncomputable def G (N : Nat) : Ctx E := gam [(35, [], laws_szSignature.sp N), (37, [], laws_toSignature.sp N), (36, [], spec_VerifySignature.sp N), (38, [], impl_VerifySignature.sp N), (39, [], laws_eqSignature.sp N)]
noncomputable def m0 (N : Nat) (a0 : ByteArray) (a1 : ByteArray) (a2 : Signature) : Option R :=
  bif (decide ((a0.size : Int) > (1048576:Int))) then
    some true
  else
  bif (decide ((a1.size : Int) > (1048576:Int))) then
    some true
  else
  ob (laws_szSignature.m N a2 (1048576:Int)) fun y1 =>
  bif (decide (y1 < (0:Int))) then
    some true
  else
  ob (laws_toSignature.m N a2) fun y2 =>
  ob (spec_VerifySignature.m N a0 a1 y2) fun y3 =>
  ob (laws_toSignature.m N a2) fun y4 =>
  ob (impl_VerifySignature.m N a0 a1 y4) fun y5 =>
  bif (y5 != y3) then
    some false
  else
  ob (laws_toSignature.m N a2) fun y6 =>
  ob (laws_eqSignature.m N y4 y6) fun y7 =>
  bif (!y7) then
    some false
  else
  some true
theorem run (N : Nat) (o0 : Orc E R) (a0 : ByteArray) (a1 : ByteArray) (a2 : Signature) : runF T (G N) live [] Try.f10 code (sp N) o0 (a0, a1, a2, ()) = m0 N a0 a1 a2 := by kernel_rfl
theorem G_ok (N : Nat) : GamOK Try.prog (G N) := gam_ok (l := [(35, [], laws_szSignature.sp N), (37, [], laws_toSignature.sp N), (36, [], spec_VerifySignature.sp N), (38, [], impl_VerifySignature.sp N), (39, [], laws_eqSignature.sp N)]) (⟨laws_szSignature.snd N, laws_toSignature.snd N, spec_VerifySignature.snd N, impl_VerifySignature.snd N, laws_eqSignature.snd N, trivial⟩)
theorem snd (N : Nat) : Sound Try.prog E 10 (sp N) :=
  Mir.sound T_OK (G_ok N) mixed Try.func10 (c := code) (by kernel_rfl) (by kernel_rfl) (sp N) (Nat.le_of_ble_eq_true (by kernel_rfl)) live [] (by
    rintro ⟨a0, a1, a2, _⟩ r h
    exact ⟨N, 2, ((run N _ a0 a1 a2).trans rfl).trans h⟩)
end laws_FnExactVerifySignature
namespace spec_l08Secret
noncomputable def code : Code := Try.f57.body.getD .skip
abbrev live : Live := []
noncomputable def G (N : Nat) : Ctx E := gam [(91, [], spec_l01Hash.sp N)]
noncomputable def m0 (N : Nat) (a0 : ByteArray) (a1 : Int) (a2 : Int) : Option R :=
  bif (room (([(4:Int), (wu8 a1), (wu8 a2)]).length + (bytesOf a0).length) 1) then
  ob (spec_l01Hash.m N ([(4:Int), (wu8 a1), (wu8 a2)] ++ (bytesOf a0))) fun y1 =>
  some y1
  else none
theorem run (N : Nat) (o0 : Orc E R) (a0 : ByteArray) (a1 : Int) (a2 : Int) : runF T (G N) live [] Try.f57 code (sp N) o0 (a0, a1, a2, ()) = m0 N a0 a1 a2 := by kernel_rfl
theorem G_ok (N : Nat) : GamOK Try.prog (G N) := gam_ok (l := [(91, [], spec_l01Hash.sp N)]) (⟨spec_l01Hash.snd N, trivial⟩)
theorem snd (N : Nat) : Sound Try.prog E 57 (sp N) :=
  Mir.sound T_OK (G_ok N) mixed Try.func57 (c := code) (by kernel_rfl) (by kernel_rfl) (sp N) (Nat.le_of_ble_eq_true (by kernel_rfl)) live [] (by
    rintro ⟨a0, a1, a2, _⟩ r h
    exact ⟨N, 2, ((run N _ a0 a1 a2).trans rfl).trans h⟩)
end spec_l08Secret
namespace spec_l08Leaf
noncomputable def code : Code := Try.f62.body.getD .skip
abbrev live : Live := [(3, [0, 1, 5, 6])]
noncomputable def G (N : Nat) : Ctx E := gam [(57, [], spec_l08Secret.sp N), (51, [], spec_l08Chain.sp N), (97, [], spec_l08Ends.sp N)]
noncomputable def loop3 : Code := codeAt code [1, 1, 0, 1, 0]
noncomputable def body3 : Code := codeAt loop3 [0]
noncomputable def K3 (N : Nat) (o0 : Orc E R) : KT E R := kAt T (G N) live [] o0 code [1, 1, 0, 1, 0] (kfin T Try.f62 (sp N))
noncomputable def St3 (a0 : ByteArray) (a1 : Int) : (Int × (List ByteArray)) → St E
  | (v2, v3) => { ρ := [(0, .c (.at (.str a0))), (1, .c (.at (.int .i64 a1))), (5, .c (.at (.own 0))), (6, .c (.at (.int .i64 v2)))], H := [(0, .row 9 .str v3 false)], nx := 1, n := 22, pin := [] }
noncomputable def m0 (N : Nat) (a0 : ByteArray) (a1 : Int) (lp3 : Int × (List ByteArray) → Option R) : Option R :=
  lp3 ((0:Int), ([] : List ByteArray))
theorem run (N : Nat) (o0 : Orc E R) (a0 : ByteArray) (a1 : Int) : runF T (G N) live [] Try.f62 code (sp N) o0 (a0, a1, ()) = m0 N a0 a1 (fun a => o0 loop3 (K3 N o0) (St3 a0 a1 a)) := by kernel_rfl
theorem body3_0 (N : Nat) (o0 : Orc E R) (o1 : Orc E R) (q1 : St E → Option R) (a0 : ByteArray) (a1 : Int) (v2 : Int) (v3 : List ByteArray) : runA T (G N) live [] o1 body3 (St3 a0 a1 (v2, v3)) (kloop [0, 1, 5, 6] q1 (K3 N o0)) = step3 N a0 a1 (fun a => q1 (St3 a0 a1 a)) (v2, v3) := by kernel_rfl
theorem lp3_eq (N : Nat) (a0 : ByteArray) (a1 : Int) (a : Int × (List ByteArray)) : (orc T (G N) live [] N 2) loop3 (K3 N (orc T (G N) live [] N 2)) (St3 a0 a1 a) = lp3 N a0 a1 a :=
  (orc_loop (b := body3) (live := [0, 1, 5, 6]) (by kernel_rfl)).trans (iter_eq (St3 a0 a1) _ _ (fun q1 a => by
    have hc := congrFun (congrFun (rfl : (step3 N a0 a1) = (step3 N a0 a1)) (fun a => q1 (St3 a0 a1 a))) a
    obtain ⟨u0, u1⟩ := a
    exact (body3_0 N (orc T (G N) live [] N 2) (orc T (G N) live [] N 1) q1 a0 a1 u0 u1).trans hc) N a)
theorem G_ok (N : Nat) : GamOK Try.prog (G N) := gam_ok (l := [(57, [], spec_l08Secret.sp N), (51, [], spec_l08Chain.sp N), (97, [], spec_l08Ends.sp N)]) (⟨spec_l08Secret.snd N, spec_l08Chain.snd N, spec_l08Ends.snd N, trivial⟩)
theorem snd (N : Nat) : Sound Try.prog E 62 (sp N) :=
  Mir.sound T_OK (G_ok N) mixed Try.func62 (c := code) (by kernel_rfl) (by kernel_rfl) (sp N) (Nat.le_of_ble_eq_true (by kernel_rfl)) live [] (by
    rintro ⟨a0, a1, _⟩ r h
    exact ⟨N, 2, ((run N _ a0 a1).trans (congrArg (m0 N a0 a1) (funext fun a => lp3_eq N a0 a1 a))).trans h⟩)
end spec_l08Leaf
namespace spec_l08Leaves
noncomputable def code : Code := Try.f65.body.getD .skip
abbrev live : Live := [(3, [0, 3, 4])]
noncomputable def G (N : Nat) : Ctx E := gam [(62, [], spec_l08Leaf.sp N)]
noncomputable def loop3 : Code := codeAt code [1, 1, 0, 1, 0]
noncomputable def body3 : Code := codeAt loop3 [0]
noncomputable def K3 (N : Nat) (o0 : Orc E R) : KT E R := kAt T (G N) live [] o0 code [1, 1, 0, 1, 0] (kfin T Try.f65 (sp N))
noncomputable def St3 (a0 : ByteArray) : (Int × (List ByteArray)) → St E
  | (v1, v2) => { ρ := [(0, .c (.at (.str a0))), (3, .c (.at (.own 0))), (4, .c (.at (.int .i64 v1)))], H := [(0, .row 9 .str v2 false)], nx := 1, n := 17, pin := [] }
noncomputable def m0 (N : Nat) (a0 : ByteArray) (lp3 : Int × (List ByteArray) → Option R) : Option R :=
  lp3 ((0:Int), ([] : List ByteArray))
theorem run (N : Nat) (o0 : Orc E R) (a0 : ByteArray) : runF T (G N) live [] Try.f65 code (sp N) o0 (a0, ()) = m0 N a0 (fun a => o0 loop3 (K3 N o0) (St3 a0 a)) := by kernel_rfl
theorem body3_0 (N : Nat) (o0 : Orc E R) (o1 : Orc E R) (q1 : St E → Option R) (a0 : ByteArray) (v1 : Int) (v2 : List ByteArray) : runA T (G N) live [] o1 body3 (St3 a0 (v1, v2)) (kloop [0, 3, 4] q1 (K3 N o0)) = step3 N a0 (fun a => q1 (St3 a0 a)) (v1, v2) := by kernel_rfl
theorem lp3_eq (N : Nat) (a0 : ByteArray) (a : Int × (List ByteArray)) : (orc T (G N) live [] N 2) loop3 (K3 N (orc T (G N) live [] N 2)) (St3 a0 a) = lp3 N a0 a :=
  (orc_loop (b := body3) (live := [0, 3, 4]) (by kernel_rfl)).trans (iter_eq (St3 a0) _ _ (fun q1 a => by
    have hc := congrFun (congrFun (rfl : (step3 N a0) = (step3 N a0)) (fun a => q1 (St3 a0 a))) a
    obtain ⟨u0, u1⟩ := a
    exact (body3_0 N (orc T (G N) live [] N 2) (orc T (G N) live [] N 1) q1 a0 u0 u1).trans hc) N a)
theorem G_ok (N : Nat) : GamOK Try.prog (G N) := gam_ok (l := [(62, [], spec_l08Leaf.sp N)]) (⟨spec_l08Leaf.snd N, trivial⟩)
theorem snd (N : Nat) : Sound Try.prog E 65 (sp N) :=
  Mir.sound T_OK (G_ok N) mixed Try.func65 (c := code) (by kernel_rfl) (by kernel_rfl) (sp N) (Nat.le_of_ble_eq_true (by kernel_rfl)) live [] (by
    rintro ⟨a0, _⟩ r h
    exact ⟨N, 2, ((run N _ a0).trans (congrArg (m0 N a0) (funext fun a => lp3_eq N a0 a))).trans h⟩)
end spec_l08Leaves
namespace spec_l06Tree
noncomputable def code : Code := Try.f64.body.getD .skip
abbrev live : Live := []
noncomputable def G (N : Nat) (slf : (List ByteArray) → Option R) : Ctx E := gam [(91, [], spec_l01Hash.sp N), (99, [], spec_l06Half.sp N), (64, [], spf slf), (100, [], spec_l06Node.sp N)]
noncomputable def m0 (N : Nat) (slf : (List ByteArray) → Option R) (a0 : List ByteArray) : Option R :=
  bif ((a0.length : Int) == (0:Int)) then
    ob (spec_l01Hash.m N ([] : List Int)) fun y1 =>
    some y1
  else
  bif ((a0.length : Int) == (1:Int)) then
    bif (decide (0 ≤ (0:Int))) then
    bif (decide ((0:Int) < (a0.length : Int))) then
    some (a0.getD 0 ByteArray.empty)
    else none
    else none
  else
  ob (spec_l06Half.m N (a0.length : Int)) fun y2 =>
  bif (decide (0 ≤ y2)) then
  bif (decide (y2 ≤ ((a0.length : Nat) : Int))) then
  ob (slf (a0.take (Int.toNat y2))) fun y3 =>
  bif (decide (0 ≤ y2)) then
  bif (decide (y2 ≤ ((a0.length : Nat) : Int))) then
  ob (slf (a0.drop (Int.toNat y2))) fun y4 =>
  ob (spec_l06Node.m N y3 y4) fun y5 =>
  some y5
  else none
  else none
  else none
  else none
theorem run (N : Nat) (o0 : Orc E R) (slf : (List ByteArray) → Option R) (a0 : List ByteArray) : runF T (G N slf) live [] Try.f64 code (spf (mb N slf)) o0 (a0, ()) = m0 N slf a0 := by kernel_rfl
theorem G_ok (N : Nat) (slf : (List ByteArray) → Option R) (hs : Sound Try.prog E 64 (spf slf)) : GamOK Try.prog (G N slf) := gam_ok (l := [(91, [], spec_l01Hash.sp N), (99, [], spec_l06Half.sp N), (64, [], spf slf), (100, [], spec_l06Node.sp N)]) (⟨spec_l01Hash.snd N, spec_l06Half.snd N, hs, spec_l06Node.snd N, trivial⟩)
theorem sndF (N : Nat) : ∀ n, Sound Try.prog E 64 (spf (mF N n))
  | 0 => sound_none Try.func64 (c := code) (by kernel_rfl) (by kernel_rfl) (spf (mF N 0)) (fun _ => rfl)
  | n + 1 => by
    have hr := fun (a0 : List ByteArray) => (run N (orc T (G N (mF N n)) live [] N 2) (mF N n) a0).trans rfl
    exact Mir.sound T_OK (G_ok N (mF N n) (sndF N n)) mixed Try.func64 (c := code) (by kernel_rfl) (by kernel_rfl) (spf (mF N (n + 1))) (Nat.le_of_ble_eq_true (by kernel_rfl)) live [] (by
      rintro ⟨a0, _⟩ r h
      exact ⟨N, 2, (hr a0).trans h⟩)
theorem snd (N : Nat) : Sound Try.prog E 64 (sp N) := sndF N N
end spec_l06Tree
namespace spec_l06Path
noncomputable def code : Code := Try.f106.body.getD .skip
abbrev live : Live := []
noncomputable def G (N : Nat) (slf : (List ByteArray) → Int → Option R) : Ctx E := gam [(99, [], spec_l06Half.sp N), (106, [], spf slf), (64, [], spec_l06Tree.sp N)]
noncomputable def m0 (N : Nat) (slf : (List ByteArray) → Int → Option R) (a0 : List ByteArray) (a1 : Int) : Option R :=
  bif ((a0.length : Int) == (1:Int)) then
    some ([] : List ByteArray)
  else
  ob (spec_l06Half.m N (a0.length : Int)) fun y1 =>
  bif (decide (a1 < y1)) then
    bif (decide (0 ≤ y1)) then
    bif (decide (y1 ≤ ((a0.length : Nat) : Int))) then
    ob (slf (a0.take (Int.toNat y1)) a1) fun y2 =>
    bif (decide (0 ≤ y1)) then
    bif (decide (y1 ≤ ((a0.length : Nat) : Int))) then
    ob (spec_l06Tree.m N (a0.drop (Int.toNat y1))) fun y3 =>
    bif (room (y2.length + ([y3]).length) 16) then
    some (y2 ++ [y3])
    else none
    else none
    else none
    else none
    else none
  else
  bif (decide (0 ≤ y1)) then
  bif (decide (y1 ≤ ((a0.length : Nat) : Int))) then
  ob (slf (a0.drop (Int.toNat y1)) (w64 (a1 - y1))) fun y4 =>
  bif (decide (0 ≤ y1)) then
  bif (decide (y1 ≤ ((a0.length : Nat) : Int))) then
  ob (spec_l06Tree.m N (a0.take (Int.toNat y1))) fun y5 =>
  bif (room (y4.length + ([y5]).length) 16) then
  some (y4 ++ [y5])
  else none
  else none
  else none
  else none
  else none
theorem run (N : Nat) (o0 : Orc E R) (slf : (List ByteArray) → Int → Option R) (a0 : List ByteArray) (a1 : Int) : runF T (G N slf) live [] Try.f106 code (spf (mb N slf)) o0 (a0, a1, ()) = m0 N slf a0 a1 := by kernel_rfl
theorem G_ok (N : Nat) (slf : (List ByteArray) → Int → Option R) (hs : Sound Try.prog E 106 (spf slf)) : GamOK Try.prog (G N slf) := gam_ok (l := [(99, [], spec_l06Half.sp N), (106, [], spf slf), (64, [], spec_l06Tree.sp N)]) (⟨spec_l06Half.snd N, hs, spec_l06Tree.snd N, trivial⟩)
theorem sndF (N : Nat) : ∀ n, Sound Try.prog E 106 (spf (mF N n))
  | 0 => sound_none Try.func106 (c := code) (by kernel_rfl) (by kernel_rfl) (spf (mF N 0)) (fun _ => rfl)
  | n + 1 => by
    have hr := fun (a0 : List ByteArray) (a1 : Int) => (run N (orc T (G N (mF N n)) live [] N 2) (mF N n) a0 a1).trans rfl
    exact Mir.sound T_OK (G_ok N (mF N n) (sndF N n)) mixed Try.func106 (c := code) (by kernel_rfl) (by kernel_rfl) (spf (mF N (n + 1))) (Nat.le_of_ble_eq_true (by kernel_rfl)) live [] (by
      rintro ⟨a0, a1, _⟩ r h
      exact ⟨N, 2, (hr a0 a1).trans h⟩)
theorem snd (N : Nat) : Sound Try.prog E 106 (sp N) := sndF N N
end spec_l06Path
end Mir.Y
