/- The models are what the functions do. -/
import Derived.Test.YtojpcjbdehoibaaGreatKP1
import Derived.Test.YtojpcjbdehoibaaGreatKLays
namespace Mir.Y
set_option linter.unusedVariables false
set_option maxRecDepth 10000
open Go Go.Proofs Mir
namespace spec_MapOf
noncomputable def code : Code := Tryz.f4.body.getD .skip
abbrev live : Live := []
noncomputable def G (N : Nat) : Ctx E := gam [(14, [], spec_l00Source.sp N), (15, [], spec_l00Src_branch.sp N)]
noncomputable def m0 (N : Nat) (a0 : List Int) : Option R :=
  ob (spec_l00Source.m N a0) fun y1 =>
  ob (spec_l00Src_branch.m N (l00Src.mk y1.code y1.«at» y1.seed)) fun y2 =>
  some (Branch.mk y2.1.Key y2.1.Value y2.1.At y2.1.Kids)
theorem run (N : Nat) (o0 : Orc E R) (a0 : List Int) : runF TD (G N) live [] Tryz.f4 code (sp N) o0 (a0, ()) = m0 N a0 := by kernel_rfl
theorem G_ok (N : Nat) : GamOK Tryz.prog (G N) := gam_ok (l := [(14, [], spec_l00Source.sp N), (15, [], spec_l00Src_branch.sp N)]) (⟨spec_l00Source.snd N, spec_l00Src_branch.snd N, trivial⟩)
theorem snd (N : Nat) : Sound Tryz.prog E 4 (sp N) :=
  Mir.sound TD_OK (G_ok N) mixed Tryz.func4 (c := code) (by kernel_rfl) (by kernel_rfl) (sp N) (Nat.le_of_ble_eq_true (by kernel_rfl)) live [] (by
    rintro ⟨a0, _⟩ r h
    exact ⟨N, 2, ((run N _ a0).trans rfl).trans h⟩)
end spec_MapOf
namespace spec_MapKeyOf
noncomputable def code : Code := Tryz.f5.body.getD .skip
abbrev live : Live := []
noncomputable def G (N : Nat) : Ctx E := gam [(14, [], spec_l00Source.sp N), (16, [], spec_l00Src_mapKey.sp N)]
noncomputable def m0 (N : Nat) (a0 : List Int) : Option R :=
  ob (spec_l00Source.m N a0) fun y1 =>
  ob (spec_l00Src_mapKey.m N y1) fun y2 =>
  some y2.1
theorem run (N : Nat) (o0 : Orc E R) (a0 : List Int) : runF T (G N) live [] Tryz.f5 code (sp N) o0 (a0, ()) = m0 N a0 := by kernel_rfl
theorem G_ok (N : Nat) : GamOK Tryz.prog (G N) := gam_ok (l := [(14, [], spec_l00Source.sp N), (16, [], spec_l00Src_mapKey.sp N)]) (⟨spec_l00Source.snd N, spec_l00Src_mapKey.snd N, trivial⟩)
theorem snd (N : Nat) : Sound Tryz.prog E 5 (sp N) :=
  Mir.sound T_OK (G_ok N) mixed Tryz.func5 (c := code) (by kernel_rfl) (by kernel_rfl) (sp N) (Nat.le_of_ble_eq_true (by kernel_rfl)) live [] (by
    rintro ⟨a0, _⟩ r h
    exact ⟨N, 2, ((run N _ a0).trans rfl).trans h⟩)
end spec_MapKeyOf
namespace impl_Branch_isEmpty
noncomputable def code : Code := Tryz.f21.body.getD .skip
abbrev live : Live := []
noncomputable def G (N : Nat) : Ctx E := gam []
noncomputable def m0 (N : Nat) (a0 : Branch) : Option R :=
  bif (seq a0.Key ByteArray.empty) then
    bif (bif true then (seq a0.Value ByteArray.empty) else false) then
      bif (bif true then (a0.At == (0:Int)) else false) then
        some (bif true then ((a0.Kids.length : Int) == (0:Int)) else false)
      else
      some false
    else
    some false
  else
  some false
theorem run (N : Nat) (o0 : Orc E R) (a0 : Branch) : runF T (G N) live [] Tryz.f21 code (sp N) o0 (a0, ()) = m0 N a0 := by kernel_rfl
theorem G_ok (N : Nat) : GamOK Tryz.prog (G N) := gam_ok (l := []) (trivial)
theorem snd (N : Nat) : Sound Tryz.prog E 21 (sp N) :=
  Mir.sound T_OK (G_ok N) mixed Tryz.func21 (c := code) (by kernel_rfl) (by kernel_rfl) (sp N) (Nat.le_of_ble_eq_true (by kernel_rfl)) live [] (by
    rintro ⟨a0, _⟩ r h
    exact ⟨N, 2, ((run N _ a0).trans rfl).trans h⟩)
end impl_Branch_isEmpty
namespace impl_within
noncomputable def code : Code := Tryz.f67.body.getD .skip
abbrev live : Live := []
noncomputable def G (N : Nat) : Ctx E := gam []
noncomputable def m0 (N : Nat) (a0 : Int) (a1 : Int) (a2 : Int) : Option R :=
  bif (decide (a0 ≥ a1)) then
    some (bif true then (decide (a0 ≤ a2)) else false)
  else
  some false
theorem run (N : Nat) (o0 : Orc E R) (a0 : Int) (a1 : Int) (a2 : Int) : runF T (G N) live [] Tryz.f67 code (sp N) o0 (a0, a1, a2, ()) = m0 N a0 a1 a2 := by kernel_rfl
theorem G_ok (N : Nat) : GamOK Tryz.prog (G N) := gam_ok (l := []) (trivial)
theorem snd (N : Nat) : Sound Tryz.prog E 67 (sp N) :=
  Mir.sound T_OK (G_ok N) mixed Tryz.func67 (c := code) (by kernel_rfl) (by kernel_rfl) (sp N) (Nat.le_of_ble_eq_true (by kernel_rfl)) live [] (by
    rintro ⟨a0, a1, a2, _⟩ r h
    exact ⟨N, 2, ((run N _ a0 a1 a2).trans rfl).trans h⟩)
end impl_within
namespace impl_isKey
noncomputable def code : Code := Tryz.f29.body.getD .skip
abbrev live : Live := []
noncomputable def G (N : Nat) : Ctx E := gam [(67, [], impl_within.sp N)]
noncomputable def m0 (N : Nat) (a0 : ByteArray) : Option R :=
  ob (impl_within.m N (a0.size : Int) (1:Int) (24:Int)) fun y1 =>
  some y1
theorem run (N : Nat) (o0 : Orc E R) (a0 : ByteArray) : runF T (G N) live [] Tryz.f29 code (sp N) o0 (a0, ()) = m0 N a0 := by kernel_rfl
theorem G_ok (N : Nat) : GamOK Tryz.prog (G N) := gam_ok (l := [(67, [], impl_within.sp N)]) (⟨impl_within.snd N, trivial⟩)
theorem snd (N : Nat) : Sound Tryz.prog E 29 (sp N) :=
  Mir.sound T_OK (G_ok N) mixed Tryz.func29 (c := code) (by kernel_rfl) (by kernel_rfl) (sp N) (Nat.le_of_ble_eq_true (by kernel_rfl)) live [] (by
    rintro ⟨a0, _⟩ r h
    exact ⟨N, 2, ((run N _ a0).trans rfl).trans h⟩)
end impl_isKey
namespace impl_isValue
noncomputable def code : Code := Tryz.f31.body.getD .skip
abbrev live : Live := []
noncomputable def G (N : Nat) : Ctx E := gam []
noncomputable def m0 (N : Nat) (a0 : ByteArray) : Option R :=
  some (decide ((a0.size : Int) ≤ (60:Int)))
theorem run (N : Nat) (o0 : Orc E R) (a0 : ByteArray) : runF T (G N) live [] Tryz.f31 code (sp N) o0 (a0, ()) = m0 N a0 := by kernel_rfl
theorem G_ok (N : Nat) : GamOK Tryz.prog (G N) := gam_ok (l := []) (trivial)
theorem snd (N : Nat) : Sound Tryz.prog E 31 (sp N) :=
  Mir.sound T_OK (G_ok N) mixed Tryz.func31 (c := code) (by kernel_rfl) (by kernel_rfl) (sp N) (Nat.le_of_ble_eq_true (by kernel_rfl)) live [] (by
    rintro ⟨a0, _⟩ r h
    exact ⟨N, 2, ((run N _ a0).trans rfl).trans h⟩)
end impl_isValue
namespace impl_Branch_isLeaf
noncomputable def code : Code := Tryz.f97.body.getD .skip
abbrev live : Live := []
noncomputable def G (N : Nat) : Ctx E := gam [(29, [], impl_isKey.sp N), (31, [], impl_isValue.sp N)]
noncomputable def m0 (N : Nat) (a0 : Branch) : Option R :=
  bif (a0.At == (256:Int)) then
    ob (impl_isKey.m N a0.Key) fun y1 =>
    bif (bif true then y1 else false) then
      ob (impl_isValue.m N a0.Value) fun y2 =>
      bif (bif true then y2 else false) then
        some (bif true then ((a0.Kids.length : Int) == (0:Int)) else false)
      else
      some false
    else
    some false
  else
  some false
theorem run (N : Nat) (o0 : Orc E R) (a0 : Branch) : runF T (G N) live [] Tryz.f97 code (sp N) o0 (a0, ()) = m0 N a0 := by kernel_rfl
theorem G_ok (N : Nat) : GamOK Tryz.prog (G N) := gam_ok (l := [(29, [], impl_isKey.sp N), (31, [], impl_isValue.sp N)]) (⟨impl_isKey.snd N, impl_isValue.snd N, trivial⟩)
theorem snd (N : Nat) : Sound Tryz.prog E 97 (sp N) :=
  Mir.sound T_OK (G_ok N) mixed Tryz.func97 (c := code) (by kernel_rfl) (by kernel_rfl) (sp N) (Nat.le_of_ble_eq_true (by kernel_rfl)) live [] (by
    rintro ⟨a0, _⟩ r h
    exact ⟨N, 2, ((run N _ a0).trans rfl).trans h⟩)
end impl_Branch_isLeaf
namespace strings_Repeat
theorem repeatL_eq (l : List UInt8) : ∀ n, Go.Lib.repeatL l n = (List.replicate n l).flatten
  | 0 => rfl
  | n + 1 => by rw [List.replicate_succ, List.flatten_cons, ← repeatL_eq l n]; rfl
theorem str_of {W : World} {F : Nat → Prop} {s : ByteArray} {v : Value} (h : RoV E W F .str s v) : v = .string s := by
  obtain ⟨d, h⟩ := h; cases d <;> exact h
theorem int_of {W : World} {F : Nat → Prop} {k : IntKind} {n : Int} {v : Value} (h : RoV E W F (.int k) n v) : v = .int k n := by
  obtain ⟨d, h⟩ := h; cases d <;> exact h
theorem snd (N : Nat) : Sound Tryz.prog E 52 (sp N) := by
  refine ⟨fun args W => run_callFunc_go Tryz.func52 (c := Tryz.f52.body.getD .skip) (by kernel_rfl) (by kernel_rfl) args W, ?_⟩
  rintro W F ⟨a0, a1, _⟩ r args fp hfn ⟨v, vs, f1, f2, rfl, rfl, ⟨h0, rfl⟩, ⟨w, ws, g1, g2, rfl, rfl, ⟨h1, rfl⟩, ⟨rfl, rfl⟩⟩⟩ _ _ hF
  obtain rfl := str_of h0
  obtain rfl := int_of h1
  have hfn : (bif decide (0 ≤ a1) && decide (a1 ≤ 9223372036854775807) && decide (a0.size * a1.toNat ≤ 140737488355328) then some (rep a0 a1.toNat) else none) = some r := hfn
  cases hc : decide (0 ≤ a1) && decide (a1 ≤ 9223372036854775807) && decide (a0.size * a1.toNat ≤ 140737488355328) with
  | false => rw [hc] at hfn; cases hfn
  | true =>
    rw [hc, cond_true] at hfn
    cases hfn
    simp only [Bool.and_eq_true, decide_eq_true_eq] at hc
    obtain ⟨⟨c1, c2⟩, c3⟩ := hc
    obtain ⟨n, rfl⟩ := Int.eq_ofNat_of_zero_le c1
    have c2 : (n : Int) ≤ 9223372036854775807 := c2
    have c3 : a0.size * n ≤ 140737488355328 := c3
    have hcall := Go.Proofs.Any.strings_Repeat Tryz.repLays Tryz.repExtra a0 n W (by omega) c3
    refine (show Calls Tryz.prog 52 #[.string a0, .int .i64 n] W _ from hcall).mono ?_
    rintro e W' ⟨rfl, hb⟩
    refine ⟨_, rfl, ⟨F, [.string (rep a0 n)], [], [], ?_, fun b h => h, fun b h => ⟨.inl h, Nat.lt_of_lt_of_le (hF b h) hb.size⟩, ⟨_, [], [], [], rfl, rfl, ⟨rfl, rfl⟩, ⟨rfl, rfl⟩⟩, ⟨_, _, [], [], rfl, rfl, rfl, ⟨_, _, [], [], rfl, rfl, rfl, ⟨rfl, rfl⟩⟩⟩, List.nodup_nil, fun b h => by cases h⟩, hb.os, hb.tape, hb.output, hb.size, fun b h _ => hb.block b h⟩
    rw [repeatL_eq]; rfl
end strings_Repeat
namespace impl_number
noncomputable def code : Code := Tryz.f53.body.getD .skip
abbrev live : Live := [(3, [0, 5, 6])]
noncomputable def G (N : Nat) : Ctx E := gam []
noncomputable def loop3 : Code := codeAt code [1, 1, 0, 1, 0]
noncomputable def body3 : Code := codeAt loop3 [0]
noncomputable def K3 (N : Nat) (o0 : Orc E R) : KT E R := kAt T (G N) live [] o0 code [1, 1, 0, 1, 0] (kfin T Tryz.f53 (sp N))
noncomputable def St3 (a0 : Int) (a1 : Int) : (Int × Int × (List Int)) → St E
  | (v0, v1, v2) => { ρ := [(0, .c (.at (.int .i64 v0))), (5, .c (.at (.own 0))), (6, .c (.at (.int .i64 v1)))], H := [(0, .row 5 (.int .u8) v2 false)], nx := 1, n := 24, pin := [] }
noncomputable def m0 (N : Nat) (a0 : Int) (a1 : Int) (lp3 : Int × Int × (List Int) → Option R) : Option R :=
  bif (decide (0 ≤ a1)) then
  bif (room (Int.toNat a1) 1) then
  lp3 (a0, (w64 (a1 - (1:Int))), (List.replicate (Int.toNat a1) (0:Int)))
  else none
  else none
theorem run (N : Nat) (o0 : Orc E R) (a0 : Int) (a1 : Int) : runF T (G N) live [] Tryz.f53 code (sp N) o0 (a0, a1, ()) = m0 N a0 a1 (fun a => o0 loop3 (K3 N o0) (St3 a0 a1 a)) := by kernel_rfl
theorem body3_0 (N : Nat) (o0 : Orc E R) (o1 : Orc E R) (q1 : St E → Option R) (a0 : Int) (a1 : Int) (v0 : Int) (v1 : Int) (v2 : List Int) : runA T (G N) live [] o1 body3 (St3 a0 a1 (v0, v1, v2)) (kloop [0, 5, 6] q1 (K3 N o0)) = step3 N a0 a1 (fun a => q1 (St3 a0 a1 a)) (v0, v1, v2) := by kernel_rfl
theorem lp3_eq (N : Nat) (a0 : Int) (a1 : Int) (a : Int × Int × (List Int)) : (orc T (G N) live [] N 2) loop3 (K3 N (orc T (G N) live [] N 2)) (St3 a0 a1 a) = lp3 N a0 a1 a :=
  (orc_loop (b := body3) (live := [0, 5, 6]) (by kernel_rfl)).trans (iter_eq (St3 a0 a1) _ _ (fun q1 a => by
    have hc := congrFun (congrFun (rfl : (step3 N a0 a1) = (step3 N a0 a1)) (fun a => q1 (St3 a0 a1 a))) a
    obtain ⟨u0, u1, u2⟩ := a
    exact (body3_0 N (orc T (G N) live [] N 2) (orc T (G N) live [] N 1) q1 a0 a1 u0 u1 u2).trans hc) N a)
theorem G_ok (N : Nat) : GamOK Tryz.prog (G N) := gam_ok (l := []) (trivial)
theorem snd (N : Nat) : Sound Tryz.prog E 53 (sp N) :=
  Mir.sound T_OK (G_ok N) mixed Tryz.func53 (c := code) (by kernel_rfl) (by kernel_rfl) (sp N) (Nat.le_of_ble_eq_true (by kernel_rfl)) live [] (by
    rintro ⟨a0, a1, _⟩ r h
    exact ⟨N, 2, ((run N _ a0 a1).trans (congrArg (m0 N a0 a1) (funext fun a => lp3_eq N a0 a1 a))).trans h⟩)
end impl_number
namespace impl_hashWords
noncomputable def code : Code := Tryz.f54.body.getD .skip
abbrev live : Live := []
noncomputable def G (N : Nat) : Ctx E := gam []
noncomputable def m0 (N : Nat) : Option R :=
  (let w1 : List Int := [(1779033703:Int), (3144134277:Int), (1013904242:Int), (2773480762:Int), (1359893119:Int), (2600822924:Int), (528734635:Int), (1541459225:Int)]
  some w1)
theorem run (N : Nat) (o0 : Orc E R) : runF T (G N) live [] Tryz.f54 code (sp N) o0 () = m0 N := by kernel_rfl
theorem G_ok (N : Nat) : GamOK Tryz.prog (G N) := gam_ok (l := []) (trivial)
theorem snd (N : Nat) : Sound Tryz.prog E 54 (sp N) :=
  Mir.sound T_OK (G_ok N) mixed Tryz.func54 (c := code) (by kernel_rfl) (by kernel_rfl) (sp N) (Nat.le_of_ble_eq_true (by kernel_rfl)) live [] (by
    rintro _ r h
    exact ⟨N, 2, ((run N _).trans rfl).trans h⟩)
end impl_hashWords
namespace impl_roundWords
noncomputable def code : Code := Tryz.f55.body.getD .skip
abbrev live : Live := []
noncomputable def G (N : Nat) : Ctx E := gam []
noncomputable def m0 (N : Nat) : Option R :=
  (let w1 : List Int := [(1116352408:Int), (1899447441:Int), (3049323471:Int), (3921009573:Int), (961987163:Int), (1508970993:Int), (2453635748:Int), (2870763221:Int), (3624381080:Int), (310598401:Int), (607225278:Int), (1426881987:Int), (1925078388:Int), (2162078206:Int), (2614888103:Int), (3248222580:Int), (3835390401:Int), (4022224774:Int), (264347078:Int), (604807628:Int), (770255983:Int), (1249150122:Int), (1555081692:Int), (1996064986:Int), (2554220882:Int), (2821834349:Int), (2952996808:Int), (3210313671:Int), (3336571891:Int), (3584528711:Int), (113926993:Int), (338241895:Int), (666307205:Int), (773529912:Int), (1294757372:Int), (1396182291:Int), (1695183700:Int), (1986661051:Int), (2177026350:Int), (2456956037:Int), (2730485921:Int), (2820302411:Int), (3259730800:Int), (3345764771:Int), (3516065817:Int), (3600352804:Int), (4094571909:Int), (275423344:Int), (430227734:Int), (506948616:Int), (659060556:Int), (883997877:Int), (958139571:Int), (1322822218:Int), (1537002063:Int), (1747873779:Int), (1955562222:Int), (2024104815:Int), (2227730452:Int), (2361852424:Int), (2428436474:Int), (2756734187:Int), (3204031479:Int), (3329325298:Int)]
  some w1)
theorem run (N : Nat) (o0 : Orc E R) : runF T (G N) live [] Tryz.f55 code (sp N) o0 () = m0 N := by kernel_rfl
theorem G_ok (N : Nat) : GamOK Tryz.prog (G N) := gam_ok (l := []) (trivial)
theorem snd (N : Nat) : Sound Tryz.prog E 55 (sp N) :=
  Mir.sound T_OK (G_ok N) mixed Tryz.func55 (c := code) (by kernel_rfl) (by kernel_rfl) (sp N) (Nat.le_of_ble_eq_true (by kernel_rfl)) live [] (by
    rintro _ r h
    exact ⟨N, 2, ((run N _).trans rfl).trans h⟩)
end impl_roundWords
namespace math_bits_RotateLeft32
noncomputable def code : Code := Tryz.f108.body.getD .skip
abbrev live : Live := []
noncomputable def G (N : Nat) : Ctx E := gam []
noncomputable def m0 (N : Nat) (a0 : Int) (a1 : Int) : Option R :=
  bif (!decide ((ibit .and .u64 (wu64 a1) (31:Int)) < 0)) then
  bif (!decide ((wu64 ((32:Int) - (ibit .and .u64 (wu64 a1) (31:Int)))) < 0)) then
  (let w1 : Int := (ibit .or .u32 (wu32 (a0 * 2 ^ (min (Int.toNat (ibit .and .u64 (wu64 a1) (31:Int))) 32))) (Int.fdiv a0 (2 ^ (min (Int.toNat (wu64 ((32:Int) - (ibit .and .u64 (wu64 a1) (31:Int))))) 32))))
  some w1)
  else none
  else none
theorem run (N : Nat) (o0 : Orc E R) (a0 : Int) (a1 : Int) : runF T (G N) live [] Tryz.f108 code (sp N) o0 (a0, a1, ()) = m0 N a0 a1 := by kernel_rfl
theorem G_ok (N : Nat) : GamOK Tryz.prog (G N) := gam_ok (l := []) (trivial)
theorem snd (N : Nat) : Sound Tryz.prog E 108 (sp N) :=
  Mir.sound T_OK (G_ok N) mixed Tryz.func108 (c := code) (by kernel_rfl) (by kernel_rfl) (sp N) (Nat.le_of_ble_eq_true (by kernel_rfl)) live [] (by
    rintro ⟨a0, a1, _⟩ r h
    exact ⟨N, 2, ((run N _ a0 a1).trans rfl).trans h⟩)
end math_bits_RotateLeft32
namespace impl_turned
noncomputable def code : Code := Tryz.f89.body.getD .skip
abbrev live : Live := []
noncomputable def G (N : Nat) : Ctx E := gam [(108, [], math_bits_RotateLeft32.sp N)]
noncomputable def m0 (N : Nat) (a0 : Int) (a1 : Int) : Option R :=
  ob (math_bits_RotateLeft32.m N a0 (w64 (0 - a1))) fun y1 =>
  some y1
theorem run (N : Nat) (o0 : Orc E R) (a0 : Int) (a1 : Int) : runF T (G N) live [] Tryz.f89 code (sp N) o0 (a0, a1, ()) = m0 N a0 a1 := by kernel_rfl
theorem G_ok (N : Nat) : GamOK Tryz.prog (G N) := gam_ok (l := [(108, [], math_bits_RotateLeft32.sp N)]) (⟨math_bits_RotateLeft32.snd N, trivial⟩)
theorem snd (N : Nat) : Sound Tryz.prog E 89 (sp N) :=
  Mir.sound T_OK (G_ok N) mixed Tryz.func89 (c := code) (by kernel_rfl) (by kernel_rfl) (sp N) (Nat.le_of_ble_eq_true (by kernel_rfl)) live [] (by
    rintro ⟨a0, a1, _⟩ r h
    exact ⟨N, 2, ((run N _ a0 a1).trans rfl).trans h⟩)
end impl_turned
namespace impl_wordsOf
noncomputable def code : Code := Tryz.f88.body.getD .skip
abbrev live : Live := [(3, [0, 2, 3, 10])]
noncomputable def G (N : Nat) : Ctx E := gam [(89, [], impl_turned.sp N)]
noncomputable def loop3 : Code := codeAt code [1, 1, 0, 1, 0]
noncomputable def body3 : Code := codeAt loop3 [0]
noncomputable def K3 (N : Nat) (o0 : Orc E R) : KT E R := kAt T (G N) live [] o0 code [1, 1, 0, 1, 0] (kfin T Tryz.f88 (sp N))
noncomputable def St3 (a0 : ByteArray) : (Int × (List Int) × (List Int)) → St E
  | (v1, v2, v3) => { ρ := [(0, .c (.at (.str a0))), (2, .c (.at (.ptr 0 0))), (3, .c (.at (.ptr 1 0))), (10, .c (.at (.int .i64 v1)))], H := [(0, .arr 82 .u32 64 v2), (1, .arr 82 .u32 64 v3)], nx := 2, n := 87, pin := [] }
noncomputable def m0 (N : Nat) (a0 : ByteArray) (lp3 : Int × (List Int) × (List Int) → Option R) : Option R :=
  lp3 ((0:Int), (List.replicate 64 (0:Int)), (List.replicate 64 (0:Int)))
theorem run (N : Nat) (o0 : Orc E R) (a0 : ByteArray) : runF T (G N) live [] Tryz.f88 code (sp N) o0 (a0, ()) = m0 N a0 (fun a => o0 loop3 (K3 N o0) (St3 a0 a)) := by kernel_rfl
theorem body3_0 (N : Nat) (o0 : Orc E R) (o1 : Orc E R) (q1 : St E → Option R) (a0 : ByteArray) (v1 : Int) (v2 : List Int) (v3 : List Int) : runA T (G N) live [] o1 body3 (St3 a0 (v1, v2, v3)) (kloop [0, 2, 3, 10] q1 (K3 N o0)) = step3 N a0 (fun a => q1 (St3 a0 a)) (v1, v2, v3) := by kernel_rfl
theorem lp3_eq (N : Nat) (a0 : ByteArray) (a : Int × (List Int) × (List Int)) : (orc T (G N) live [] N 2) loop3 (K3 N (orc T (G N) live [] N 2)) (St3 a0 a) = lp3 N a0 a :=
  (orc_loop (b := body3) (live := [0, 2, 3, 10]) (by kernel_rfl)).trans (iter_eq (St3 a0) _ _ (fun q1 a => by
    have hc := congrFun (congrFun (rfl : (step3 N a0) = (step3 N a0)) (fun a => q1 (St3 a0 a))) a
    obtain ⟨u0, u1, u2⟩ := a
    exact (body3_0 N (orc T (G N) live [] N 2) (orc T (G N) live [] N 1) q1 a0 u0 u1 u2).trans hc) N a)
theorem G_ok (N : Nat) : GamOK Tryz.prog (G N) := gam_ok (l := [(89, [], impl_turned.sp N)]) (⟨impl_turned.snd N, trivial⟩)
theorem snd (N : Nat) : Sound Tryz.prog E 88 (sp N) :=
  Mir.sound T_OK (G_ok N) mixed Tryz.func88 (c := code) (by kernel_rfl) (by kernel_rfl) (sp N) (Nat.le_of_ble_eq_true (by kernel_rfl)) live [] (by
    rintro ⟨a0, _⟩ r h
    exact ⟨N, 2, ((run N _ a0).trans (congrArg (m0 N a0) (funext fun a => lp3_eq N a0 a))).trans h⟩)
end impl_wordsOf
namespace impl_blockHash
noncomputable def code : Code := Tryz.f56.body.getD .skip
abbrev live : Live := [(11, [3, 6, 7, 100]), (3, [3, 4, 6, 7, 8, 22])]
noncomputable def G (N : Nat) : Ctx E := gam [(88, [], impl_wordsOf.sp N), (89, [], impl_turned.sp N)]
noncomputable def loop3 : Code := codeAt code [1, 1, 0, 1, 0]
noncomputable def body3 : Code := codeAt loop3 [0]
noncomputable def loop11 : Code := codeAt code [1, 1, 1, 0, 1, 0]
noncomputable def body11 : Code := codeAt loop11 [0]
noncomputable def K3 (N : Nat) (o0 : Orc E R) : KT E R := kAt T (G N) live [] o0 code [1, 1, 0, 1, 0] (kfin T Tryz.f56 (sp N))
noncomputable def St3 (a0 : List Int) (a1 : List Int) (a2 : ByteArray) : (Int × (List Int) × (List Int) × (List Int)) → St E
  | (v0, v3, v4, v5) => { ρ := [(3, .c (.at (.ptr 0 0))), (4, .c (.at (.ptr 1 0))), (6, .c (.at (.ptr 2 0))), (7, .c (.at (.ptr 3 0))), (8, .c (.at (.ptr 4 0))), (22, .c (.at (.int .i64 v0)))], H := [(0, .arr 80 .u32 8 a0), (1, .arr 82 .u32 64 a1), (2, .arr 80 .u32 8 v3), (3, .arr 80 .u32 8 v4), (4, .arr 82 .u32 64 v5)], nx := 5, n := 113, pin := [] }
noncomputable def K11 (N : Nat) (o0 : Orc E R) : KT E R := kAt T (G N) live [] o0 code [1, 1, 1, 0, 1, 0] (kfin T Tryz.f56 (sp N))
noncomputable def St11 (a0 : List Int) (a1 : List Int) (a2 : ByteArray) : (Int × (List Int) × (List Int)) → St E
  | (v0, v2, v3) => { ρ := [(3, .c (.at (.ptr 0 0))), (6, .c (.at (.ptr 1 0))), (7, .c (.at (.ptr 2 0))), (100, .c (.at (.int .i64 v0)))], H := [(0, .arr 80 .u32 8 a0), (1, .arr 80 .u32 8 v2), (2, .arr 80 .u32 8 v3)], nx := 3, n := 113, pin := [] }
noncomputable def m0 (N : Nat) (a0 : List Int) (a1 : List Int) (a2 : ByteArray) (lp3 : Int × (List Int) × (List Int) × (List Int) → Option R) : Option R :=
  ob (impl_wordsOf.m N a2) fun y1 =>
  lp3 ((0:Int), (List.replicate 8 (0:Int)), a0, y1)
theorem run (N : Nat) (o0 : Orc E R) (a0 : List Int) (a1 : List Int) (a2 : ByteArray) : runF T (G N) live [] Tryz.f56 code (sp N) o0 (a0, a1, a2, ()) = m0 N a0 a1 a2 (fun a => o0 loop3 (K3 N o0) (St3 a0 a1 a2 a)) := by kernel_rfl
theorem body3_0 (N : Nat) (o0 : Orc E R) (o1 : Orc E R) (q1 : St E → Option R) (a0 : List Int) (a1 : List Int) (a2 : ByteArray) (v0 : Int) (v3 : List Int) (v4 : List Int) (v5 : List Int) : runA T (G N) live [] o1 body3 (St3 a0 a1 a2 (v0, v3, v4, v5)) (kloop [3, 4, 6, 7, 8, 22] q1 (K3 N o0)) = step3 N a0 a1 a2 (fun a => o0 loop11 (K11 N o0) (St11 a0 a1 a2 a)) (fun a => q1 (St3 a0 a1 a2 a)) (v0, v3, v4, v5) := by kernel_rfl
theorem body11_0 (N : Nat) (o0 : Orc E R) (o1 : Orc E R) (q1 : St E → Option R) (a0 : List Int) (a1 : List Int) (a2 : ByteArray) (v0 : Int) (v2 : List Int) (v3 : List Int) : runA T (G N) live [] o1 body11 (St11 a0 a1 a2 (v0, v2, v3)) (kloop [3, 6, 7, 100] q1 (K11 N o0)) = step11 N a0 a1 a2 (fun a => q1 (St11 a0 a1 a2 a)) (v0, v2, v3) := by kernel_rfl
theorem lp11_eq (N : Nat) (a0 : List Int) (a1 : List Int) (a2 : ByteArray) (a : Int × (List Int) × (List Int)) : (orc T (G N) live [] N 2) loop11 (K11 N (orc T (G N) live [] N 2)) (St11 a0 a1 a2 a) = lp11 N a0 a1 a2 a :=
  (orc_loop (b := body11) (live := [3, 6, 7, 100]) (by kernel_rfl)).trans (iter_eq (St11 a0 a1 a2) _ _ (fun q1 a => by
    have hc := congrFun (congrFun (rfl : (step11 N a0 a1 a2) = (step11 N a0 a1 a2)) (fun a => q1 (St11 a0 a1 a2 a))) a
    obtain ⟨u0, u1, u2⟩ := a
    exact (body11_0 N (orc T (G N) live [] N 2) (orc T (G N) live [] N 1) q1 a0 a1 a2 u0 u1 u2).trans hc) N a)
theorem lp3_eq (N : Nat) (a0 : List Int) (a1 : List Int) (a2 : ByteArray) (a : Int × (List Int) × (List Int) × (List Int)) : (orc T (G N) live [] N 2) loop3 (K3 N (orc T (G N) live [] N 2)) (St3 a0 a1 a2 a) = lp3 N a0 a1 a2 a :=
  (orc_loop (b := body3) (live := [3, 4, 6, 7, 8, 22]) (by kernel_rfl)).trans (iter_eq (St3 a0 a1 a2) _ _ (fun q1 a => by
    have hc := congrFun (congrFun (congrArg (step3 N a0 a1 a2) (funext fun a => lp11_eq N a0 a1 a2 a)) (fun a => q1 (St3 a0 a1 a2 a))) a
    obtain ⟨u0, u1, u2, u3⟩ := a
    exact (body3_0 N (orc T (G N) live [] N 2) (orc T (G N) live [] N 1) q1 a0 a1 a2 u0 u1 u2 u3).trans hc) N a)
theorem G_ok (N : Nat) : GamOK Tryz.prog (G N) := gam_ok (l := [(88, [], impl_wordsOf.sp N), (89, [], impl_turned.sp N)]) (⟨impl_wordsOf.snd N, impl_turned.snd N, trivial⟩)
theorem snd (N : Nat) : Sound Tryz.prog E 56 (sp N) :=
  Mir.sound T_OK (G_ok N) mixed Tryz.func56 (c := code) (by kernel_rfl) (by kernel_rfl) (sp N) (Nat.le_of_ble_eq_true (by kernel_rfl)) live [] (by
    rintro ⟨a0, a1, a2, _⟩ r h
    exact ⟨N, 2, ((run N _ a0 a1 a2).trans (congrArg (m0 N a0 a1 a2) (funext fun a => lp3_eq N a0 a1 a2 a))).trans h⟩)
end impl_blockHash
namespace impl_hash
noncomputable def code : Code := Tryz.f20.body.getD .skip
abbrev live : Live := [(9, [7, 40, 41]), (4, [3, 4, 5, 6])]
noncomputable def G (N : Nat) : Ctx E := gam [(52, [], strings_Repeat.sp N), (53, [], impl_number.sp N), (54, [], impl_hashWords.sp N), (55, [], impl_roundWords.sp N), (56, [], impl_blockHash.sp N)]
noncomputable def loop4 : Code := codeAt code [1, 1, 1, 0, 1, 0]
noncomputable def body4 : Code := codeAt loop4 [0]
noncomputable def loop9 : Code := codeAt code [1, 1, 1, 1, 1, 0, 1, 0]
noncomputable def body9 : Code := codeAt loop9 [0]
noncomputable def K4 (N : Nat) (o0 : Orc E R) : KT E R := kAt T (G N) live [] o0 code [1, 1, 1, 0, 1, 0] (kfin T Tryz.f20 (sp N))
noncomputable def St4 (a0 : ByteArray) : (ByteArray × Int × (List Int) × (List Int)) → St E
  | (v0, v1, v2, v3) => { ρ := [(3, .c (.at (.str v0))), (4, .c (.at (.ptr 0 0))), (5, .c (.at (.ptr 1 0))), (6, .c (.at (.int .i64 v1)))], H := [(0, .arr 80 .u32 8 v2), (1, .arr 82 .u32 64 v3)], nx := 2, n := 51, pin := [] }
noncomputable def K9 (N : Nat) (o0 : Orc E R) : KT E R := kAt T (G N) live [] o0 code [1, 1, 1, 1, 1, 0, 1, 0] (kfin T Tryz.f20 (sp N))
noncomputable def St9 (a0 : ByteArray) : (ByteArray × (List Int) × Int) → St E
  | (v0, v1, v2) => { ρ := [(7, .c (.at (.str v0))), (40, .c (.arr .u32 8 v1)), (41, .c (.at (.int .i64 v2)))], H := [], nx := 0, n := 51, pin := [] }
noncomputable def m0 (N : Nat) (a0 : ByteArray) (lp4 : ByteArray × Int × (List Int) × (List Int) → Option R) : Option R :=
  bif (decide (a0.size + (⟨#[128]⟩ : ByteArray).size ≤ 9223372036854775807)) then
  bif (!decide ((64:Int) = 0)) then
  bif (!decide ((64:Int) = 0)) then
  ob (strings_Repeat.m N (⟨#[0]⟩ : ByteArray) (Int.tmod (w64 ((119:Int) - (Int.tmod (a0.size : Int) (64:Int)))) (64:Int))) fun y1 =>
  bif (decide ((a0 ++ (⟨#[128]⟩ : ByteArray)).size + y1.size ≤ 9223372036854775807)) then
  ob (impl_number.m N (w64 ((8:Int) * (a0.size : Int))) (8:Int)) fun y2 =>
  bif (decide (((a0 ++ (⟨#[128]⟩ : ByteArray)) ++ y1).size + y2.size ≤ 9223372036854775807)) then
  ob (impl_hashWords.m N) fun y3 =>
  ob (impl_roundWords.m N) fun y4 =>
  lp4 ((((a0 ++ (⟨#[128]⟩ : ByteArray)) ++ y1) ++ y2), (0:Int), y3, y4)
  else none
  else none
  else none
  else none
  else none
theorem run (N : Nat) (o0 : Orc E R) (a0 : ByteArray) : runF T (G N) live [] Tryz.f20 code (sp N) o0 (a0, ()) = m0 N a0 (fun a => o0 loop4 (K4 N o0) (St4 a0 a)) := by kernel_rfl
theorem body4_0 (N : Nat) (o0 : Orc E R) (o1 : Orc E R) (q1 : St E → Option R) (a0 : ByteArray) (v0 : ByteArray) (v1 : Int) (v2 : List Int) (v3 : List Int) : runA T (G N) live [] o1 body4 (St4 a0 (v0, v1, v2, v3)) (kloop [3, 4, 5, 6] q1 (K4 N o0)) = step4 N a0 (fun a => o0 loop9 (K9 N o0) (St9 a0 a)) (fun a => q1 (St4 a0 a)) (v0, v1, v2, v3) := by kernel_rfl
theorem body9_0 (N : Nat) (o0 : Orc E R) (o1 : Orc E R) (q1 : St E → Option R) (a0 : ByteArray) (v0 : ByteArray) (v1 : List Int) (v2 : Int) : runA T (G N) live [] o1 body9 (St9 a0 (v0, v1, v2)) (kloop [7, 40, 41] q1 (K9 N o0)) = step9 N a0 (fun a => q1 (St9 a0 a)) (v0, v1, v2) := by kernel_rfl
theorem lp9_eq (N : Nat) (a0 : ByteArray) (a : ByteArray × (List Int) × Int) : (orc T (G N) live [] N 2) loop9 (K9 N (orc T (G N) live [] N 2)) (St9 a0 a) = lp9 N a0 a :=
  (orc_loop (b := body9) (live := [7, 40, 41]) (by kernel_rfl)).trans (iter_eq (St9 a0) _ _ (fun q1 a => by
    have hc := congrFun (congrFun (rfl : (step9 N a0) = (step9 N a0)) (fun a => q1 (St9 a0 a))) a
    obtain ⟨u0, u1, u2⟩ := a
    exact (body9_0 N (orc T (G N) live [] N 2) (orc T (G N) live [] N 1) q1 a0 u0 u1 u2).trans hc) N a)
theorem lp4_eq (N : Nat) (a0 : ByteArray) (a : ByteArray × Int × (List Int) × (List Int)) : (orc T (G N) live [] N 2) loop4 (K4 N (orc T (G N) live [] N 2)) (St4 a0 a) = lp4 N a0 a :=
  (orc_loop (b := body4) (live := [3, 4, 5, 6]) (by kernel_rfl)).trans (iter_eq (St4 a0) _ _ (fun q1 a => by
    have hc := congrFun (congrFun (congrArg (step4 N a0) (funext fun a => lp9_eq N a0 a)) (fun a => q1 (St4 a0 a))) a
    obtain ⟨u0, u1, u2, u3⟩ := a
    exact (body4_0 N (orc T (G N) live [] N 2) (orc T (G N) live [] N 1) q1 a0 u0 u1 u2 u3).trans hc) N a)
theorem G_ok (N : Nat) : GamOK Tryz.prog (G N) := gam_ok (l := [(52, [], strings_Repeat.sp N), (53, [], impl_number.sp N), (54, [], impl_hashWords.sp N), (55, [], impl_roundWords.sp N), (56, [], impl_blockHash.sp N)]) (⟨strings_Repeat.snd N, impl_number.snd N, impl_hashWords.snd N, impl_roundWords.snd N, impl_blockHash.snd N, trivial⟩)
theorem snd (N : Nat) : Sound Tryz.prog E 20 (sp N) :=
  Mir.sound T_OK (G_ok N) mixed Tryz.func20 (c := code) (by kernel_rfl) (by kernel_rfl) (sp N) (Nat.le_of_ble_eq_true (by kernel_rfl)) live [] (by
    rintro ⟨a0, _⟩ r h
    exact ⟨N, 2, ((run N _ a0).trans (congrArg (m0 N a0) (funext fun a => lp4_eq N a0 a))).trans h⟩)
end impl_hash
namespace impl_Branch_isFork
noncomputable def code : Code := Tryz.f98.body.getD .skip
abbrev live : Live := []
noncomputable def G (N : Nat) : Ctx E := gam [(67, [], impl_within.sp N)]
noncomputable def m0 (N : Nat) (a0 : Branch) : Option R :=
  bif (seq a0.Key ByteArray.empty) then
    bif (bif true then (seq a0.Value ByteArray.empty) else false) then
      ob (impl_within.m N a0.At (0:Int) (255:Int)) fun y1 =>
      bif (bif true then y1 else false) then
        some (bif true then ((a0.Kids.length : Int) == (2:Int)) else false)
      else
      some false
    else
    some false
  else
  some false
theorem run (N : Nat) (o0 : Orc E R) (a0 : Branch) : runF T (G N) live [] Tryz.f98 code (sp N) o0 (a0, ()) = m0 N a0 := by kernel_rfl
theorem G_ok (N : Nat) : GamOK Tryz.prog (G N) := gam_ok (l := [(67, [], impl_within.sp N)]) (⟨impl_within.snd N, trivial⟩)
theorem snd (N : Nat) : Sound Tryz.prog E 98 (sp N) :=
  Mir.sound T_OK (G_ok N) mixed Tryz.func98 (c := code) (by kernel_rfl) (by kernel_rfl) (sp N) (Nat.le_of_ble_eq_true (by kernel_rfl)) live [] (by
    rintro ⟨a0, _⟩ r h
    exact ⟨N, 2, ((run N _ a0).trans rfl).trans h⟩)
end impl_Branch_isFork
namespace impl_bit
noncomputable def code : Code := Tryz.f22.body.getD .skip
abbrev live : Live := []
noncomputable def G (N : Nat) : Ctx E := gam []
noncomputable def m0 (N : Nat) (a0 : ByteArray) (a1 : Int) : Option R :=
  bif (!decide ((8:Int) = 0)) then
  bif (decide (0 ≤ (w64 (Int.tdiv a1 (8:Int))))) then
  bif (decide ((w64 (Int.tdiv a1 (8:Int))) < (a0.size : Int))) then
  bif (!decide ((8:Int) = 0)) then
  bif (!decide ((w64 ((7:Int) - (Int.tmod a1 (8:Int)))) < 0)) then
  (let w1 : Int := (ibit .and .i64 (w64 (Int.fdiv (sb a0 (w64 (Int.tdiv a1 (8:Int)))) (2 ^ (min (Int.toNat (w64 ((7:Int) - (Int.tmod a1 (8:Int))))) 8)))) (1:Int))
  some w1)
  else none
  else none
  else none
  else none
  else none
theorem run (N : Nat) (o0 : Orc E R) (a0 : ByteArray) (a1 : Int) : runF T (G N) live [] Tryz.f22 code (sp N) o0 (a0, a1, ()) = m0 N a0 a1 := by kernel_rfl
theorem G_ok (N : Nat) : GamOK Tryz.prog (G N) := gam_ok (l := []) (trivial)
theorem snd (N : Nat) : Sound Tryz.prog E 22 (sp N) :=
  Mir.sound T_OK (G_ok N) mixed Tryz.func22 (c := code) (by kernel_rfl) (by kernel_rfl) (sp N) (Nat.le_of_ble_eq_true (by kernel_rfl)) live [] (by
    rintro ⟨a0, a1, _⟩ r h
    exact ⟨N, 2, ((run N _ a0 a1).trans rfl).trans h⟩)
end impl_bit
namespace impl_Branch_pairs_1
noncomputable def code : Code := Tryz.f100.body.getD .skip
abbrev live : Live := []
noncomputable def G (N : Nat) : Ctx E := gam [(22, [], impl_bit.sp N)]
noncomputable def m0 (N : Nat) (a0 : pairOf) (a1 : Branch) (a2 : Int) : Option R :=
  ob (impl_bit.m N a0.hash a1.At) fun y1 =>
  some (y1 != a2)
theorem run (N : Nat) (o0 : Orc E R) (a0 : pairOf) (a1 : Branch) (a2 : Int) : runF T (G N) live [] Tryz.f100 code (sp N) o0 (a0, a1, a2, ()) = m0 N a0 a1 a2 := by kernel_rfl
theorem G_ok (N : Nat) : GamOK Tryz.prog (G N) := gam_ok (l := [(22, [], impl_bit.sp N)]) (⟨impl_bit.snd N, trivial⟩)
theorem snd (N : Nat) : Sound Tryz.prog E 100 (sp N) :=
  Mir.sound T_OK (G_ok N) mixed Tryz.func100 (c := code) (by kernel_rfl) (by kernel_rfl) (sp N) (Nat.le_of_ble_eq_true (by kernel_rfl)) live [] (by
    rintro ⟨a0, a1, a2, _⟩ r h
    exact ⟨N, 2, ((run N _ a0 a1 a2).trans rfl).trans h⟩)
end impl_Branch_pairs_1
namespace slices_IndexFunc_impl_pairOf_impl_pairOf__impl_Branch_pairs_1
noncomputable def code : Code := Tryz.f111.body.getD .skip
abbrev live : Live := [(2, [0, 1, 7, 8])]
noncomputable def G (N : Nat) : Ctx E := gam [(100, [], impl_Branch_pairs_1.sp N)]
noncomputable def loop2 : Code := codeAt code [1, 0, 1, 0]
noncomputable def body2 : Code := codeAt loop2 [0]
noncomputable def K2 (N : Nat) (o0 : Orc E R) : KT E R := kAt T (G N) live [] o0 code [1, 0, 1, 0] (kfin T Tryz.f111 (sp N))
noncomputable def St2 (a0 : List pairOf) (a1_0 : Branch) (a1_1 : Int) : (Int × Int) → St E
  | (v1, v2) => { ρ := [(0, .c (.at (.ro 58 (.st 58) a0))), (1, .clo 100 [.at (.ptr 0 0), .at (.ptr 1 0)]), (7, .c (.at (.int .i64 v1))), (8, .c (.at (.int .i64 v2)))], H := [(0, .rbx [.str a1_0.Key, .str a1_0.Value, .int .i64 a1_0.At, .ro 25 (.st 25) a1_0.Kids]), (1, .rbx [.int .i64 a1_1])], nx := 2, n := 19, pin := [] }
noncomputable def m0 (N : Nat) (a0 : List pairOf) (a1_0 : Branch) (a1_1 : Int) (lp2 : Int × Int → Option R) : Option R :=
  lp2 ((a0.length : Int), (0:Int))
theorem run (N : Nat) (o0 : Orc E R) (a0 : List pairOf) (a1_0 : Branch) (a1_1 : Int) : runF T (G N) live [] Tryz.f111 code (sp N) o0 (a0, (a1_0, a1_1, ()), ()) = m0 N a0 a1_0 a1_1 (fun a => o0 loop2 (K2 N o0) (St2 a0 a1_0 a1_1 a)) := by kernel_rfl
theorem body2_0 (N : Nat) (o0 : Orc E R) (o1 : Orc E R) (q1 : St E → Option R) (a0 : List pairOf) (a1_0 : Branch) (a1_1 : Int) (v1 : Int) (v2 : Int) : runA T (G N) live [] o1 body2 (St2 a0 a1_0 a1_1 (v1, v2)) (kloop [0, 1, 7, 8] q1 (K2 N o0)) = step2 N a0 a1_0 a1_1 (fun a => q1 (St2 a0 a1_0 a1_1 a)) (v1, v2) := by kernel_rfl
theorem lp2_eq (N : Nat) (a0 : List pairOf) (a1_0 : Branch) (a1_1 : Int) (a : Int × Int) : (orc T (G N) live [] N 2) loop2 (K2 N (orc T (G N) live [] N 2)) (St2 a0 a1_0 a1_1 a) = lp2 N a0 a1_0 a1_1 a :=
  (orc_loop (b := body2) (live := [0, 1, 7, 8]) (by kernel_rfl)).trans (iter_eq (St2 a0 a1_0 a1_1) _ _ (fun q1 a => by
    have hc := congrFun (congrFun (rfl : (step2 N a0 a1_0 a1_1) = (step2 N a0 a1_0 a1_1)) (fun a => q1 (St2 a0 a1_0 a1_1 a))) a
    obtain ⟨u0, u1⟩ := a
    exact (body2_0 N (orc T (G N) live [] N 2) (orc T (G N) live [] N 1) q1 a0 a1_0 a1_1 u0 u1).trans hc) N a)
theorem G_ok (N : Nat) : GamOK Tryz.prog (G N) := gam_ok (l := [(100, [], impl_Branch_pairs_1.sp N)]) (⟨impl_Branch_pairs_1.snd N, trivial⟩)
theorem snd (N : Nat) : Sound Tryz.prog E 111 (sp N) :=
  Mir.sound T_OK (G_ok N) mixed Tryz.func111 (c := code) (by kernel_rfl) (by kernel_rfl) (sp N) (Nat.le_of_ble_eq_true (by kernel_rfl)) live [] (by
    rintro ⟨a0, ⟨a1_0, a1_1, _⟩, _⟩ r h
    exact ⟨N, 2, ((run N _ a0 a1_0 a1_1).trans (congrArg (m0 N a0 a1_0 a1_1) (funext fun a => lp2_eq N a0 a1_0 a1_1 a))).trans h⟩)
end slices_IndexFunc_impl_pairOf_impl_pairOf__impl_Branch_pairs_1
namespace slices_ContainsFunc_impl_pairOf_impl_pairOf__impl_Branch_pairs_1
noncomputable def code : Code := Tryz.f99.body.getD .skip
abbrev live : Live := []
noncomputable def G (N : Nat) : Ctx E := gam [(111, [100], slices_IndexFunc_impl_pairOf_impl_pairOf__impl_Branch_pairs_1.sp N)]
noncomputable def m0 (N : Nat) (a0 : List pairOf) (a1_0 : Branch) (a1_1 : Int) : Option R :=
  ob (slices_IndexFunc_impl_pairOf_impl_pairOf__impl_Branch_pairs_1.m N a0 (Branch.mk a1_0.Key a1_0.Value a1_0.At a1_0.Kids) a1_1) fun y1 =>
  some (decide (y1 ≥ (0:Int)))
theorem run (N : Nat) (o0 : Orc E R) (a0 : List pairOf) (a1_0 : Branch) (a1_1 : Int) : runF T (G N) live [] Tryz.f99 code (sp N) o0 (a0, (a1_0, a1_1, ()), ()) = m0 N a0 a1_0 a1_1 := by kernel_rfl
theorem G_ok (N : Nat) : GamOK Tryz.prog (G N) := gam_ok (l := [(111, [100], slices_IndexFunc_impl_pairOf_impl_pairOf__impl_Branch_pairs_1.sp N)]) (⟨slices_IndexFunc_impl_pairOf_impl_pairOf__impl_Branch_pairs_1.snd N, trivial⟩)
theorem snd (N : Nat) : Sound Tryz.prog E 99 (sp N) :=
  Mir.sound T_OK (G_ok N) mixed Tryz.func99 (c := code) (by kernel_rfl) (by kernel_rfl) (sp N) (Nat.le_of_ble_eq_true (by kernel_rfl)) live [] (by
    rintro ⟨a0, ⟨a1_0, a1_1, _⟩, _⟩ r h
    exact ⟨N, 2, ((run N _ a0 a1_0 a1_1).trans rfl).trans h⟩)
end slices_ContainsFunc_impl_pairOf_impl_pairOf__impl_Branch_pairs_1
namespace impl_sameAhead
noncomputable def code : Code := Tryz.f102.body.getD .skip
abbrev live : Live := [(2, [0, 1, 8, 9])]
noncomputable def G (N : Nat) : Ctx E := gam [(22, [], impl_bit.sp N)]
noncomputable def loop2 : Code := codeAt code [1, 0, 1, 0]
noncomputable def body2 : Code := codeAt loop2 [0]
noncomputable def K2 (N : Nat) (o0 : Orc E R) : KT E R := kAt T (G N) live [] o0 code [1, 0, 1, 0] (kfin T Tryz.f102 (sp N))
noncomputable def St2 (a0 : ByteArray) (a1 : ByteArray) (a2 : Int) : Int → St E
  | v3 => { ρ := [(0, .c (.at (.str a0))), (1, .c (.at (.str a1))), (8, .c (.at (.int .i64 a2))), (9, .c (.at (.int .i64 v3)))], H := [], nx := 0, n := 20, pin := [] }
noncomputable def m0 (N : Nat) (a0 : ByteArray) (a1 : ByteArray) (a2 : Int) (lp2 : Int → Option R) : Option R :=
  lp2 (0:Int)
theorem run (N : Nat) (o0 : Orc E R) (a0 : ByteArray) (a1 : ByteArray) (a2 : Int) : runF T (G N) live [] Tryz.f102 code (sp N) o0 (a0, a1, a2, ()) = m0 N a0 a1 a2 (fun a => o0 loop2 (K2 N o0) (St2 a0 a1 a2 a)) := by kernel_rfl
theorem body2_0 (N : Nat) (o0 : Orc E R) (o1 : Orc E R) (q1 : St E → Option R) (a0 : ByteArray) (a1 : ByteArray) (a2 : Int) (v3 : Int) : runA T (G N) live [] o1 body2 (St2 a0 a1 a2 v3) (kloop [0, 1, 8, 9] q1 (K2 N o0)) = step2 N a0 a1 a2 (fun a => q1 (St2 a0 a1 a2 a)) v3 := by kernel_rfl
theorem lp2_eq (N : Nat) (a0 : ByteArray) (a1 : ByteArray) (a2 : Int) (a : Int) : (orc T (G N) live [] N 2) loop2 (K2 N (orc T (G N) live [] N 2)) (St2 a0 a1 a2 a) = lp2 N a0 a1 a2 a :=
  (orc_loop (b := body2) (live := [0, 1, 8, 9]) (by kernel_rfl)).trans (iter_eq (St2 a0 a1 a2) _ _ (fun q1 a => by
    have hc := congrFun (congrFun (rfl : (step2 N a0 a1 a2) = (step2 N a0 a1 a2)) (fun a => q1 (St2 a0 a1 a2 a))) a
    exact (body2_0 N (orc T (G N) live [] N 2) (orc T (G N) live [] N 1) q1 a0 a1 a2 a).trans hc) N a)
theorem G_ok (N : Nat) : GamOK Tryz.prog (G N) := gam_ok (l := [(22, [], impl_bit.sp N)]) (⟨impl_bit.snd N, trivial⟩)
theorem snd (N : Nat) : Sound Tryz.prog E 102 (sp N) :=
  Mir.sound T_OK (G_ok N) mixed Tryz.func102 (c := code) (by kernel_rfl) (by kernel_rfl) (sp N) (Nat.le_of_ble_eq_true (by kernel_rfl)) live [] (by
    rintro ⟨a0, a1, a2, _⟩ r h
    exact ⟨N, 2, ((run N _ a0 a1 a2).trans (congrArg (m0 N a0 a1 a2) (funext fun a => lp2_eq N a0 a1 a2 a))).trans h⟩)
end impl_sameAhead
namespace impl_Branch_pairs_2
noncomputable def code : Code := Tryz.f101.body.getD .skip
abbrev live : Live := []
noncomputable def G (N : Nat) : Ctx E := gam [(102, [], impl_sameAhead.sp N)]
noncomputable def m0 (N : Nat) (a0 : pairOf) (a1 : List pairOf) (a2 : Branch) : Option R :=
  bif (decide (0 ≤ (0:Int))) then
  bif (decide ((0:Int) < (a1.length : Int))) then
  ob (impl_sameAhead.m N a0.hash ((a1.getD 0 pairOf.dz).hash) a2.At) fun y1 =>
  some (!y1)
  else none
  else none
theorem run (N : Nat) (o0 : Orc E R) (a0 : pairOf) (a1 : List pairOf) (a2 : Branch) : runF T (G N) live [] Tryz.f101 code (sp N) o0 (a0, a1, a2, ()) = m0 N a0 a1 a2 := by kernel_rfl
theorem G_ok (N : Nat) : GamOK Tryz.prog (G N) := gam_ok (l := [(102, [], impl_sameAhead.sp N)]) (⟨impl_sameAhead.snd N, trivial⟩)
theorem snd (N : Nat) : Sound Tryz.prog E 101 (sp N) :=
  Mir.sound T_OK (G_ok N) mixed Tryz.func101 (c := code) (by kernel_rfl) (by kernel_rfl) (sp N) (Nat.le_of_ble_eq_true (by kernel_rfl)) live [] (by
    rintro ⟨a0, a1, a2, _⟩ r h
    exact ⟨N, 2, ((run N _ a0 a1 a2).trans rfl).trans h⟩)
end impl_Branch_pairs_2
namespace slices_IndexFunc_impl_pairOf_impl_pairOf__impl_Branch_pairs_2
noncomputable def code : Code := Tryz.f111.body.getD .skip
abbrev live : Live := [(2, [0, 1, 7, 8])]
noncomputable def G (N : Nat) : Ctx E := gam [(101, [], impl_Branch_pairs_2.sp N)]
noncomputable def loop2 : Code := codeAt code [1, 0, 1, 0]
noncomputable def body2 : Code := codeAt loop2 [0]
noncomputable def K2 (N : Nat) (o0 : Orc E R) : KT E R := kAt T (G N) live [] o0 code [1, 0, 1, 0] (kfin T Tryz.f111 (sp N))
noncomputable def St2 (a0 : List pairOf) (a1_0 : List pairOf) (a1_1 : Branch) : (Int × Int) → St E
  | (v1, v2) => { ρ := [(0, .c (.at (.ro 58 (.st 58) a0))), (1, .clo 101 [.at (.ptr 0 0), .at (.ptr 1 0)]), (7, .c (.at (.int .i64 v1))), (8, .c (.at (.int .i64 v2)))], H := [(0, .rbx [.ro 58 (.st 58) a1_0]), (1, .rbx [.str a1_1.Key, .str a1_1.Value, .int .i64 a1_1.At, .ro 25 (.st 25) a1_1.Kids])], nx := 2, n := 19, pin := [] }
noncomputable def m0 (N : Nat) (a0 : List pairOf) (a1_0 : List pairOf) (a1_1 : Branch) (lp2 : Int × Int → Option R) : Option R :=
  lp2 ((a0.length : Int), (0:Int))
theorem run (N : Nat) (o0 : Orc E R) (a0 : List pairOf) (a1_0 : List pairOf) (a1_1 : Branch) : runF T (G N) live [] Tryz.f111 code (sp N) o0 (a0, (a1_0, a1_1, ()), ()) = m0 N a0 a1_0 a1_1 (fun a => o0 loop2 (K2 N o0) (St2 a0 a1_0 a1_1 a)) := by kernel_rfl
theorem body2_0 (N : Nat) (o0 : Orc E R) (o1 : Orc E R) (q1 : St E → Option R) (a0 : List pairOf) (a1_0 : List pairOf) (a1_1 : Branch) (v1 : Int) (v2 : Int) : runA T (G N) live [] o1 body2 (St2 a0 a1_0 a1_1 (v1, v2)) (kloop [0, 1, 7, 8] q1 (K2 N o0)) = step2 N a0 a1_0 a1_1 (fun a => q1 (St2 a0 a1_0 a1_1 a)) (v1, v2) := by kernel_rfl
theorem lp2_eq (N : Nat) (a0 : List pairOf) (a1_0 : List pairOf) (a1_1 : Branch) (a : Int × Int) : (orc T (G N) live [] N 2) loop2 (K2 N (orc T (G N) live [] N 2)) (St2 a0 a1_0 a1_1 a) = lp2 N a0 a1_0 a1_1 a :=
  (orc_loop (b := body2) (live := [0, 1, 7, 8]) (by kernel_rfl)).trans (iter_eq (St2 a0 a1_0 a1_1) _ _ (fun q1 a => by
    have hc := congrFun (congrFun (rfl : (step2 N a0 a1_0 a1_1) = (step2 N a0 a1_0 a1_1)) (fun a => q1 (St2 a0 a1_0 a1_1 a))) a
    obtain ⟨u0, u1⟩ := a
    exact (body2_0 N (orc T (G N) live [] N 2) (orc T (G N) live [] N 1) q1 a0 a1_0 a1_1 u0 u1).trans hc) N a)
theorem G_ok (N : Nat) : GamOK Tryz.prog (G N) := gam_ok (l := [(101, [], impl_Branch_pairs_2.sp N)]) (⟨impl_Branch_pairs_2.snd N, trivial⟩)
theorem snd (N : Nat) : Sound Tryz.prog E 111 (sp N) :=
  Mir.sound T_OK (G_ok N) mixed Tryz.func111 (c := code) (by kernel_rfl) (by kernel_rfl) (sp N) (Nat.le_of_ble_eq_true (by kernel_rfl)) live [] (by
    rintro ⟨a0, ⟨a1_0, a1_1, _⟩, _⟩ r h
    exact ⟨N, 2, ((run N _ a0 a1_0 a1_1).trans (congrArg (m0 N a0 a1_0 a1_1) (funext fun a => lp2_eq N a0 a1_0 a1_1 a))).trans h⟩)
end slices_IndexFunc_impl_pairOf_impl_pairOf__impl_Branch_pairs_2
namespace slices_ContainsFunc_impl_pairOf_impl_pairOf__impl_Branch_pairs_2
noncomputable def code : Code := Tryz.f99.body.getD .skip
abbrev live : Live := []
noncomputable def G (N : Nat) : Ctx E := gam [(111, [101], slices_IndexFunc_impl_pairOf_impl_pairOf__impl_Branch_pairs_2.sp N)]
noncomputable def m0 (N : Nat) (a0 : List pairOf) (a1_0 : List pairOf) (a1_1 : Branch) : Option R :=
  ob (slices_IndexFunc_impl_pairOf_impl_pairOf__impl_Branch_pairs_2.m N a0 a1_0 (Branch.mk a1_1.Key a1_1.Value a1_1.At a1_1.Kids)) fun y1 =>
  some (decide (y1 ≥ (0:Int)))
theorem run (N : Nat) (o0 : Orc E R) (a0 : List pairOf) (a1_0 : List pairOf) (a1_1 : Branch) : runF T (G N) live [] Tryz.f99 code (sp N) o0 (a0, (a1_0, a1_1, ()), ()) = m0 N a0 a1_0 a1_1 := by kernel_rfl
theorem G_ok (N : Nat) : GamOK Tryz.prog (G N) := gam_ok (l := [(111, [101], slices_IndexFunc_impl_pairOf_impl_pairOf__impl_Branch_pairs_2.sp N)]) (⟨slices_IndexFunc_impl_pairOf_impl_pairOf__impl_Branch_pairs_2.snd N, trivial⟩)
theorem snd (N : Nat) : Sound Tryz.prog E 99 (sp N) :=
  Mir.sound T_OK (G_ok N) mixed Tryz.func99 (c := code) (by kernel_rfl) (by kernel_rfl) (sp N) (Nat.le_of_ble_eq_true (by kernel_rfl)) live [] (by
    rintro ⟨a0, ⟨a1_0, a1_1, _⟩, _⟩ r h
    exact ⟨N, 2, ((run N _ a0 a1_0 a1_1).trans rfl).trans h⟩)
end slices_ContainsFunc_impl_pairOf_impl_pairOf__impl_Branch_pairs_2
namespace impl_Branch_pairs
noncomputable def code : Code := Tryz.f80.body.getD .skip
abbrev live : Live := [(8, [2, 3, 8, 44, 45, 46])]
noncomputable def G (N : Nat) (slf : Branch → Int → Int → Option R) : Ctx E := gam [(97, [], impl_Branch_isLeaf.sp N), (20, [], impl_hash.sp N), (98, [], impl_Branch_isFork.sp N), (80, [], spf slf), (99, [100], slices_ContainsFunc_impl_pairOf_impl_pairOf__impl_Branch_pairs_1.sp N), (99, [101], slices_ContainsFunc_impl_pairOf_impl_pairOf__impl_Branch_pairs_2.sp N)]
noncomputable def loop8 : Code := codeAt code [1, 1, 1, 1, 0, 1, 0]
noncomputable def body8 : Code := codeAt loop8 [0]
noncomputable def K8 (N : Nat) (slf : Branch → Int → Int → Option R) (o0 : Orc E R) : KT E R := kAt T (G N slf) live [] o0 code [1, 1, 1, 1, 0, 1, 0] (kfin T Tryz.f80 (spf (mb N slf)))
noncomputable def St8 (slf : Branch → Int → Int → Option R) (a0 : Branch) (a1 : Int) (a2 : Int) : (Int × Int × Int × (List pairOf)) → St E
  | (v1, v2, v3, v8) => { ρ := [(2, .c (.at (.ptr 0 0))), (3, .c (.at (.ptr 1 0))), (8, .c (.at (.ptr 2 0))), (44, .c (.at (.ro 25 (.st 25) a0.Kids))), (45, .c (.at (.int .i64 v1))), (46, .c (.at (.int .i64 v2)))], H := [(0, .box 3 [.int .i64 v3]), (1, .box 25 [.str a0.Key, .str a0.Value, .int .i64 a0.At, .ro 25 (.st 25) a0.Kids]), (2, .box 45 [.own 3]), (3, .row 58 (.st 58) v8 false)], nx := 4, n := 75, pin := [2] }
noncomputable def m0 (N : Nat) (slf : Branch → Int → Int → Option R) (a0 : Branch) (a1 : Int) (a2 : Int) (lp8 : Int × Int × Int × (List pairOf) → Option R) : Option R :=
  ob (impl_Branch_isLeaf.m N (Branch.mk a0.Key a0.Value a0.At a0.Kids)) fun y1 =>
  bif y1 then
    ob (impl_hash.m N a0.Key) fun y2 =>
    some ([(pairOf.mk a0.Key a0.Value y2)], (decide ((w64 (a2 - (1:Int))) ≥ (0:Int))), (w64 (a2 - (1:Int))))
  else
  ob (impl_Branch_isFork.m N (Branch.mk a0.Key a0.Value a0.At a0.Kids)) fun y3 =>
  bif (!y3) then
    some (([] : List pairOf), false, a2)
  else
  bif (bif false then true else (decide (a0.At ≤ a1))) then
    some (([] : List pairOf), false, a2)
  else
  lp8 ((a0.Kids.length : Int), (0:Int), a2, ([] : List pairOf))
theorem run (N : Nat) (o0 : Orc E R) (slf : Branch → Int → Int → Option R) (a0 : Branch) (a1 : Int) (a2 : Int) : runF T (G N slf) live [] Tryz.f80 code (spf (mb N slf)) o0 (a0, a1, a2, ()) = m0 N slf a0 a1 a2 (fun a => o0 loop8 (K8 N slf o0) (St8 slf a0 a1 a2 a)) := by kernel_rfl
theorem body8_0 (N : Nat) (o0 : Orc E R) (o1 : Orc E R) (q1 : St E → Option R) (slf : Branch → Int → Int → Option R) (a0 : Branch) (a1 : Int) (a2 : Int) (v1 : Int) (v2 : Int) (v3 : Int) (v8 : List pairOf) : runA T (G N slf) live [] o1 body8 (St8 slf a0 a1 a2 (v1, v2, v3, v8)) (kloop [2, 3, 8, 44, 45, 46] q1 (K8 N slf o0)) = step8 N slf a0 a1 a2 (fun a => q1 (St8 slf a0 a1 a2 a)) (v1, v2, v3, v8) := by kernel_rfl
theorem lp8_eq (N : Nat) (slf : Branch → Int → Int → Option R) (a0 : Branch) (a1 : Int) (a2 : Int) (a : Int × Int × Int × (List pairOf)) : (orc T (G N slf) live [] N 2) loop8 (K8 N slf (orc T (G N slf) live [] N 2)) (St8 slf a0 a1 a2 a) = lp8 N slf a0 a1 a2 a :=
  (orc_loop (b := body8) (live := [2, 3, 8, 44, 45, 46]) (by kernel_rfl)).trans (iter_eq (St8 slf a0 a1 a2) _ _ (fun q1 a => by
    have hc := congrFun (congrFun (rfl : (step8 N slf a0 a1 a2) = (step8 N slf a0 a1 a2)) (fun a => q1 (St8 slf a0 a1 a2 a))) a
    obtain ⟨u0, u1, u2, u3⟩ := a
    exact (body8_0 N (orc T (G N slf) live [] N 2) (orc T (G N slf) live [] N 1) q1 slf a0 a1 a2 u0 u1 u2 u3).trans hc) N a)
theorem G_ok (N : Nat) (slf : Branch → Int → Int → Option R) (hs : Sound Tryz.prog E 80 (spf slf)) : GamOK Tryz.prog (G N slf) := gam_ok (l := [(97, [], impl_Branch_isLeaf.sp N), (20, [], impl_hash.sp N), (98, [], impl_Branch_isFork.sp N), (80, [], spf slf), (99, [100], slices_ContainsFunc_impl_pairOf_impl_pairOf__impl_Branch_pairs_1.sp N), (99, [101], slices_ContainsFunc_impl_pairOf_impl_pairOf__impl_Branch_pairs_2.sp N)]) (⟨impl_Branch_isLeaf.snd N, impl_hash.snd N, impl_Branch_isFork.snd N, hs, slices_ContainsFunc_impl_pairOf_impl_pairOf__impl_Branch_pairs_1.snd N, slices_ContainsFunc_impl_pairOf_impl_pairOf__impl_Branch_pairs_2.snd N, trivial⟩)
theorem sndF (N : Nat) : ∀ n, Sound Tryz.prog E 80 (spf (mF N n))
  | 0 => sound_none Tryz.func80 (c := code) (by kernel_rfl) (by kernel_rfl) (spf (mF N 0)) (fun _ => rfl)
  | n + 1 => by
    have hr := fun (a0 : Branch) (a1 : Int) (a2 : Int) => (run N (orc T (G N (mF N n)) live [] N 2) (mF N n) a0 a1 a2).trans (congrArg (m0 N (mF N n) a0 a1 a2) (funext fun a => lp8_eq N (mF N n) a0 a1 a2 a))
    exact Mir.sound T_OK (G_ok N (mF N n) (sndF N n)) mixed Tryz.func80 (c := code) (by kernel_rfl) (by kernel_rfl) (spf (mF N (n + 1))) (Nat.le_of_ble_eq_true (by kernel_rfl)) live [] (by
      rintro ⟨a0, a1, a2, _⟩ r h
      exact ⟨N, 2, (hr a0 a1 a2).trans h⟩)
theorem snd (N : Nat) : Sound Tryz.prog E 80 (sp N) := sndF N N
end impl_Branch_pairs
namespace impl_mapPairs
noncomputable def code : Code := Tryz.f49.body.getD .skip
abbrev live : Live := []
noncomputable def G (N : Nat) : Ctx E := gam [(21, [], impl_Branch_isEmpty.sp N), (80, [], impl_Branch_pairs.sp N)]
noncomputable def m0 (N : Nat) (a0 : Branch) : Option R :=
  ob (impl_Branch_isEmpty.m N (Branch.mk a0.Key a0.Value a0.At a0.Kids)) fun y1 =>
  bif y1 then
    some (([] : List pairOf), true)
  else
  ob (impl_Branch_pairs.m N (Branch.mk a0.Key a0.Value a0.At a0.Kids) (-1:Int) (40:Int)) fun y2 =>
  some (y2.1, y2.2.1)
theorem run (N : Nat) (o0 : Orc E R) (a0 : Branch) : runF T (G N) live [] Tryz.f49 code (sp N) o0 (a0, ()) = m0 N a0 := by kernel_rfl
theorem G_ok (N : Nat) : GamOK Tryz.prog (G N) := gam_ok (l := [(21, [], impl_Branch_isEmpty.sp N), (80, [], impl_Branch_pairs.sp N)]) (⟨impl_Branch_isEmpty.snd N, impl_Branch_pairs.snd N, trivial⟩)
theorem snd (N : Nat) : Sound Tryz.prog E 49 (sp N) :=
  Mir.sound T_OK (G_ok N) mixed Tryz.func49 (c := code) (by kernel_rfl) (by kernel_rfl) (sp N) (Nat.le_of_ble_eq_true (by kernel_rfl)) live [] (by
    rintro ⟨a0, _⟩ r h
    exact ⟨N, 2, ((run N _ a0).trans rfl).trans h⟩)
end impl_mapPairs
namespace impl_MapOK
noncomputable def code : Code := Tryz.f17.body.getD .skip
abbrev live : Live := []
noncomputable def G (N : Nat) : Ctx E := gam [(49, [], impl_mapPairs.sp N)]
noncomputable def m0 (N : Nat) (a0 : Branch) : Option R :=
  ob (impl_mapPairs.m N (Branch.mk a0.Key a0.Value a0.At a0.Kids)) fun y1 =>
  some y1.2
theorem run (N : Nat) (o0 : Orc E R) (a0 : Branch) : runF T (G N) live [] Tryz.f17 code (sp N) o0 (a0, ()) = m0 N a0 := by kernel_rfl
theorem G_ok (N : Nat) : GamOK Tryz.prog (G N) := gam_ok (l := [(49, [], impl_mapPairs.sp N)]) (⟨impl_mapPairs.snd N, trivial⟩)
theorem snd (N : Nat) : Sound Tryz.prog E 17 (sp N) :=
  Mir.sound T_OK (G_ok N) mixed Tryz.func17 (c := code) (by kernel_rfl) (by kernel_rfl) (sp N) (Nat.le_of_ble_eq_true (by kernel_rfl)) live [] (by
    rintro ⟨a0, _⟩ r h
    exact ⟨N, 2, ((run N _ a0).trans rfl).trans h⟩)
end impl_MapOK
namespace impl_counted
noncomputable def code : Code := Tryz.f81.body.getD .skip
abbrev live : Live := []
noncomputable def G (N : Nat) : Ctx E := gam [(53, [], impl_number.sp N)]
noncomputable def m0 (N : Nat) (a0 : ByteArray) : Option R :=
  ob (impl_number.m N (a0.size : Int) (1:Int)) fun y1 =>
  bif (decide (y1.size + a0.size ≤ 9223372036854775807)) then
  some (y1 ++ a0)
  else none
theorem run (N : Nat) (o0 : Orc E R) (a0 : ByteArray) : runF T (G N) live [] Tryz.f81 code (sp N) o0 (a0, ()) = m0 N a0 := by kernel_rfl
theorem G_ok (N : Nat) : GamOK Tryz.prog (G N) := gam_ok (l := [(53, [], impl_number.sp N)]) (⟨impl_number.snd N, trivial⟩)
theorem snd (N : Nat) : Sound Tryz.prog E 81 (sp N) :=
  Mir.sound T_OK (G_ok N) mixed Tryz.func81 (c := code) (by kernel_rfl) (by kernel_rfl) (sp N) (Nat.le_of_ble_eq_true (by kernel_rfl)) live [] (by
    rintro ⟨a0, _⟩ r h
    exact ⟨N, 2, ((run N _ a0).trans rfl).trans h⟩)
end impl_counted
namespace impl_leafRoot
noncomputable def code : Code := Tryz.f50.body.getD .skip
abbrev live : Live := []
noncomputable def G (N : Nat) : Ctx E := gam [(81, [], impl_counted.sp N), (20, [], impl_hash.sp N)]
noncomputable def m0 (N : Nat) (a0 : ByteArray) (a1 : ByteArray) : Option R :=
  ob (impl_counted.m N a0) fun y1 =>
  bif (decide ((⟨#[0]⟩ : ByteArray).size + y1.size ≤ 9223372036854775807)) then
  bif (decide (((⟨#[0]⟩ : ByteArray) ++ y1).size + a1.size ≤ 9223372036854775807)) then
  ob (impl_hash.m N (((⟨#[0]⟩ : ByteArray) ++ y1) ++ a1)) fun y2 =>
  some y2
  else none
  else none
theorem run (N : Nat) (o0 : Orc E R) (a0 : ByteArray) (a1 : ByteArray) : runF T (G N) live [] Tryz.f50 code (sp N) o0 (a0, a1, ()) = m0 N a0 a1 := by kernel_rfl
theorem G_ok (N : Nat) : GamOK Tryz.prog (G N) := gam_ok (l := [(81, [], impl_counted.sp N), (20, [], impl_hash.sp N)]) (⟨impl_counted.snd N, impl_hash.snd N, trivial⟩)
theorem snd (N : Nat) : Sound Tryz.prog E 50 (sp N) :=
  Mir.sound T_OK (G_ok N) mixed Tryz.func50 (c := code) (by kernel_rfl) (by kernel_rfl) (sp N) (Nat.le_of_ble_eq_true (by kernel_rfl)) live [] (by
    rintro ⟨a0, a1, _⟩ r h
    exact ⟨N, 2, ((run N _ a0 a1).trans rfl).trans h⟩)
end impl_leafRoot
namespace impl_forkRoot
noncomputable def code : Code := Tryz.f51.body.getD .skip
abbrev live : Live := []
noncomputable def G (N : Nat) : Ctx E := gam [(53, [], impl_number.sp N), (20, [], impl_hash.sp N)]
noncomputable def m0 (N : Nat) (a0 : Int) (a1 : ByteArray) (a2 : ByteArray) : Option R :=
  ob (impl_number.m N a0 (1:Int)) fun y1 =>
  bif (decide ((⟨#[1]⟩ : ByteArray).size + y1.size ≤ 9223372036854775807)) then
  bif (decide (((⟨#[1]⟩ : ByteArray) ++ y1).size + a1.size ≤ 9223372036854775807)) then
  bif (decide ((((⟨#[1]⟩ : ByteArray) ++ y1) ++ a1).size + a2.size ≤ 9223372036854775807)) then
  ob (impl_hash.m N ((((⟨#[1]⟩ : ByteArray) ++ y1) ++ a1) ++ a2)) fun y2 =>
  some y2
  else none
  else none
  else none
theorem run (N : Nat) (o0 : Orc E R) (a0 : Int) (a1 : ByteArray) (a2 : ByteArray) : runF T (G N) live [] Tryz.f51 code (sp N) o0 (a0, a1, a2, ()) = m0 N a0 a1 a2 := by kernel_rfl
theorem G_ok (N : Nat) : GamOK Tryz.prog (G N) := gam_ok (l := [(53, [], impl_number.sp N), (20, [], impl_hash.sp N)]) (⟨impl_number.snd N, impl_hash.snd N, trivial⟩)
theorem snd (N : Nat) : Sound Tryz.prog E 51 (sp N) :=
  Mir.sound T_OK (G_ok N) mixed Tryz.func51 (c := code) (by kernel_rfl) (by kernel_rfl) (sp N) (Nat.le_of_ble_eq_true (by kernel_rfl)) live [] (by
    rintro ⟨a0, a1, a2, _⟩ r h
    exact ⟨N, 2, ((run N _ a0 a1 a2).trans rfl).trans h⟩)
end impl_forkRoot
namespace impl_mapRoot
noncomputable def code : Code := Tryz.f18.body.getD .skip
abbrev live : Live := []
noncomputable def G (N : Nat) (slf : Branch → Option R) : Ctx E := gam [(21, [], impl_Branch_isEmpty.sp N), (20, [], impl_hash.sp N), (50, [], impl_leafRoot.sp N), (18, [], spf slf), (51, [], impl_forkRoot.sp N)]
noncomputable def m0 (N : Nat) (slf : Branch → Option R) (a0 : Branch) : Option R :=
  ob (impl_Branch_isEmpty.m N (Branch.mk a0.Key a0.Value a0.At a0.Kids)) fun y1 =>
  bif y1 then
    ob (impl_hash.m N (⟨#[2]⟩ : ByteArray)) fun y2 =>
    some y2
  else
  bif (a0.At == (256:Int)) then
    ob (impl_leafRoot.m N a0.Key a0.Value) fun y3 =>
    some y3
  else
  bif (decide (0 ≤ (0:Int))) then
  bif (decide ((0:Int) < (a0.Kids.length : Int))) then
  ob (slf (Branch.mk ((a0.Kids.getD 0 Branch.dz).Key) ((a0.Kids.getD 0 Branch.dz).Value) ((a0.Kids.getD 0 Branch.dz).At) ((a0.Kids.getD 0 Branch.dz).Kids))) fun y4 =>
  bif (decide (0 ≤ (1:Int))) then
  bif (decide ((1:Int) < (a0.Kids.length : Int))) then
  ob (slf (Branch.mk ((a0.Kids.getD 1 Branch.dz).Key) ((a0.Kids.getD 1 Branch.dz).Value) ((a0.Kids.getD 1 Branch.dz).At) ((a0.Kids.getD 1 Branch.dz).Kids))) fun y5 =>
  ob (impl_forkRoot.m N a0.At y4 y5) fun y6 =>
  some y6
  else none
  else none
  else none
  else none
theorem run (N : Nat) (o0 : Orc E R) (slf : Branch → Option R) (a0 : Branch) : runF T (G N slf) live [] Tryz.f18 code (spf (mb N slf)) o0 (a0, ()) = m0 N slf a0 := by kernel_rfl
theorem G_ok (N : Nat) (slf : Branch → Option R) (hs : Sound Tryz.prog E 18 (spf slf)) : GamOK Tryz.prog (G N slf) := gam_ok (l := [(21, [], impl_Branch_isEmpty.sp N), (20, [], impl_hash.sp N), (50, [], impl_leafRoot.sp N), (18, [], spf slf), (51, [], impl_forkRoot.sp N)]) (⟨impl_Branch_isEmpty.snd N, impl_hash.snd N, impl_leafRoot.snd N, hs, impl_forkRoot.snd N, trivial⟩)
theorem sndF (N : Nat) : ∀ n, Sound Tryz.prog E 18 (spf (mF N n))
  | 0 => sound_none Tryz.func18 (c := code) (by kernel_rfl) (by kernel_rfl) (spf (mF N 0)) (fun _ => rfl)
  | n + 1 => by
    have hr := fun (a0 : Branch) => (run N (orc T (G N (mF N n)) live [] N 2) (mF N n) a0).trans rfl
    exact Mir.sound T_OK (G_ok N (mF N n) (sndF N n)) mixed Tryz.func18 (c := code) (by kernel_rfl) (by kernel_rfl) (spf (mF N (n + 1))) (Nat.le_of_ble_eq_true (by kernel_rfl)) live [] (by
      rintro ⟨a0, _⟩ r h
      exact ⟨N, 2, (hr a0).trans h⟩)
theorem snd (N : Nat) : Sound Tryz.prog E 18 (sp N) := sndF N N
end impl_mapRoot
namespace impl_MapRoot
noncomputable def code : Code := Tryz.f6.body.getD .skip
abbrev live : Live := []
noncomputable def G (N : Nat) : Ctx E := gam [(17, [], impl_MapOK.sp N), (18, [], impl_mapRoot.sp N)]
noncomputable def m0 (N : Nat) (a0 : Branch) : Option R :=
  ob (impl_MapOK.m N (Branch.mk a0.Key a0.Value a0.At a0.Kids)) fun y1 =>
  bif (!y1) then
    some (ByteArray.empty, (1:Int))
  else
  ob (impl_mapRoot.m N (Branch.mk a0.Key a0.Value a0.At a0.Kids)) fun y2 =>
  some (y2, (0:Int))
theorem run (N : Nat) (o0 : Orc E R) (a0 : Branch) : runF T (G N) live [] Tryz.f6 code (sp N) o0 (a0, ()) = m0 N a0 := by kernel_rfl
theorem G_ok (N : Nat) : GamOK Tryz.prog (G N) := gam_ok (l := [(17, [], impl_MapOK.sp N), (18, [], impl_mapRoot.sp N)]) (⟨impl_MapOK.snd N, impl_mapRoot.snd N, trivial⟩)
theorem snd (N : Nat) : Sound Tryz.prog E 6 (sp N) :=
  Mir.sound T_OK (G_ok N) mixed Tryz.func6 (c := code) (by kernel_rfl) (by kernel_rfl) (sp N) (Nat.le_of_ble_eq_true (by kernel_rfl)) live [] (by
    rintro ⟨a0, _⟩ r h
    exact ⟨N, 2, ((run N _ a0).trans rfl).trans h⟩)
end impl_MapRoot
namespace impl_isText_1
noncomputable def code : Code := Tryz.f65.body.getD .skip
abbrev live : Live := []
noncomputable def G (N : Nat) : Ctx E := gam []
noncomputable def m0 (N : Nat) (a0 : ByteArray) : Option R :=
  some (decide ((a0.size : Int) > (65536:Int)))
theorem run (N : Nat) (o0 : Orc E R) (a0 : ByteArray) : runF T (G N) live [] Tryz.f65 code (sp N) o0 (a0, ()) = m0 N a0 := by kernel_rfl
theorem G_ok (N : Nat) : GamOK Tryz.prog (G N) := gam_ok (l := []) (trivial)
theorem snd (N : Nat) : Sound Tryz.prog E 65 (sp N) :=
  Mir.sound T_OK (G_ok N) mixed Tryz.func65 (c := code) (by kernel_rfl) (by kernel_rfl) (sp N) (Nat.le_of_ble_eq_true (by kernel_rfl)) live [] (by
    rintro ⟨a0, _⟩ r h
    exact ⟨N, 2, ((run N _ a0).trans rfl).trans h⟩)
end impl_isText_1
end Mir.Y
