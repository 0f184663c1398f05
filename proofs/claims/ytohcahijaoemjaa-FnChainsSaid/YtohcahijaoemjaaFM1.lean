/- Models of functions. -/
import Derived.Test.YtohcahijaoemjaaFE
namespace Mir.Y
set_option linter.unusedVariables false
set_option maxRecDepth 10000
open Go Go.Proofs Mir
/-! ### spec_l00Source: loop.example/g00220/spec.l00Source -/
namespace spec_l00Source
abbrev R := l00Src
noncomputable def m (N : Nat) (a0 : List Int) : Option R :=
  bif (!decide ((1000:Int) = 0)) then
  some (l00Src.mk a0 (0:Int) (Int.tmod (a0.length : Int) (1000:Int)))
  else none
@[reducible] noncomputable def sp (N : Nat) : Spec E := { ps := [.val (.slice 5 (.int .u8))], rs := [(.pbx 96 96)], own := true, dp := false, R := R, fn := fun x => m N x.1, res := fun r => (r, ()), out := fun r => ((), ()), shut := fun a b => a.1, res_shut := fun _ _ => rfl, out_shut := fun _ _ => rfl }
end spec_l00Source
/-! ### spec_l00Src_byte_: (*loop.example/g00220/spec.l00Src).byte -/
namespace spec_l00Src_byte_
abbrev R := Int × l00Src
noncomputable def m (N : Nat) (a0 : l00Src) : Option R :=
  bif (decide ((w64 (a0.«at» + (1:Int))) ≤ (a0.code.length : Int))) then
    bif (decide (0 ≤ (w64 ((w64 (a0.«at» + (1:Int))) - (1:Int))))) then
    bif (decide ((w64 ((w64 (a0.«at» + (1:Int))) - (1:Int))) < (a0.code.length : Int))) then
    bif (!decide ((2147483648:Int) = 0)) then
    (let w1 : Int := (Int.tmod (w64 ((w64 ((w64 (a0.seed * (31:Int))) + (w64 (a0.code.getD (Int.toNat (w64 ((w64 (a0.«at» + (1:Int))) - (1:Int)))) (0:Int))))) + (7:Int))) (2147483648:Int))
    bif (decide (0 ≤ (w64 ((w64 (a0.«at» + (1:Int))) - (1:Int))))) then
    bif (decide ((w64 ((w64 (a0.«at» + (1:Int))) - (1:Int))) < (a0.code.length : Int))) then
    some ((w64 (a0.code.getD (Int.toNat (w64 ((w64 (a0.«at» + (1:Int))) - (1:Int)))) (0:Int))), (l00Src.mk a0.code (w64 (a0.«at» + (1:Int))) w1))
    else none
    else none)
    else none
    else none
    else none
  else
  bif (decide ((w64 (a0.«at» + (1:Int))) > (3000:Int))) then
    some ((0:Int), (l00Src.mk a0.code (w64 (a0.«at» + (1:Int))) a0.seed))
  else
  bif (!decide ((2147483648:Int) = 0)) then
  bif (!decide ((65536:Int) = 0)) then
  bif (!decide ((256:Int) = 0)) then
  some ((Int.tmod (w64 (Int.tdiv (Int.tmod (w64 ((w64 (a0.seed * (1103515245:Int))) + (12345:Int))) (2147483648:Int)) (65536:Int))) (256:Int)), (l00Src.mk a0.code (w64 (a0.«at» + (1:Int))) (Int.tmod (w64 ((w64 (a0.seed * (1103515245:Int))) + (12345:Int))) (2147483648:Int))))
  else none
  else none
  else none
@[reducible] noncomputable def sp (N : Nat) : Spec E := { ps := [.box false 96 96], rs := [(.int .i64)], own := true, dp := false, R := R, fn := fun x => m N x.1, res := fun r => (r.1, ()), out := fun r => (r.2, ()), shut := fun a b => (a.1, b.1), res_shut := fun _ _ => rfl, out_shut := fun _ _ => rfl }
end spec_l00Src_byte_
/-! ### spec_l00Src_next_: (*loop.example/g00220/spec.l00Src).next -/
namespace spec_l00Src_next_
abbrev R := Int × l00Src
noncomputable def m (N : Nat) (a0 : l00Src) (a1 : Int) : Option R :=
  bif (decide (a1 ≤ (1:Int))) then
    some ((0:Int), a0)
  else
  bif (decide (a1 ≤ (256:Int))) then
    ob (spec_l00Src_byte_.m N a0) fun y1 =>
    bif (!decide (a1 = 0)) then
    some ((Int.tmod y1.1 a1), y1.2)
    else none
  else
  ob (spec_l00Src_byte_.m N a0) fun y2 =>
  ob (spec_l00Src_byte_.m N y2.2) fun y3 =>
  ob (spec_l00Src_byte_.m N y3.2) fun y4 =>
  bif (!decide (a1 = 0)) then
  some ((Int.tmod (w64 ((w64 ((w64 (y2.1 * (65536:Int))) + (w64 (y3.1 * (256:Int))))) + y4.1)) a1), y4.2)
  else none
@[reducible] noncomputable def sp (N : Nat) : Spec E := { ps := [.box false 96 96, .val (.int .i64)], rs := [(.int .i64)], own := true, dp := false, R := R, fn := fun x => m N x.1 x.2.1, res := fun r => (r.1, ()), out := fun r => (r.2, (), ()), shut := fun a b => (a.1, b.1), res_shut := fun _ _ => rfl, out_shut := fun _ _ => rfl }
end spec_l00Src_next_
/-! ### spec_l00Src_bytes: (*loop.example/g00220/spec.l00Src).bytes -/
namespace spec_l00Src_bytes
abbrev R := (List Int) × l00Src
noncomputable def step3 (N : Nat) (a0 : l00Src) (a1 : Int) (rec : (Int × (List Int) × Int × Int × (List Int)) → Option R) : (Int × (List Int) × Int × Int × (List Int)) → Option R
  | (v0, v1, v2, v3, v4) =>
    bif (decide (v0 > (0:Int))) then
      ob (spec_l00Src_next_.m N (l00Src.mk v1 v2 v3) (256:Int)) fun y2 =>
      bif (room (v4.length + ([(wu8 y2.1)]).length) 1) then
      rec ((w64 (v0 - (1:Int))), y2.2.code, y2.2.«at», y2.2.seed, (v4 ++ [(wu8 y2.1)]))
      else none
    else
    some (v4, (l00Src.mk v1 v2 v3))
noncomputable def lp3 (N : Nat) (a0 : l00Src) (a1 : Int) : (Int × (List Int) × Int × Int × (List Int)) → Option R :=
  miter (fun rec => step3 N a0 a1 rec) N
noncomputable def m (N : Nat) (a0 : l00Src) (a1 : Int) : Option R :=
  ob (spec_l00Src_next_.m N a0 (w64 (a1 + (1:Int)))) fun y1 =>
  lp3 N a0 a1 (y1.1, y1.2.code, y1.2.«at», y1.2.seed, ([] : List Int))
@[reducible] noncomputable def sp (N : Nat) : Spec E := { ps := [.box false 96 96, .val (.int .i64)], rs := [(.slice 5 (.int .u8))], own := true, dp := false, R := R, fn := fun x => m N x.1 x.2.1, res := fun r => (r.1, ()), out := fun r => (r.2, (), ()), shut := fun a b => (a.1, b.1), res_shut := fun _ _ => rfl, out_shut := fun _ _ => rfl }
end spec_l00Src_bytes
/-! ### spec_BytesOf: loop.example/g00220/spec.BytesOf -/
namespace spec_BytesOf
abbrev R := (List Int)
noncomputable def m (N : Nat) (a0 : List Int) (a1 : Int) : Option R :=
  ob (spec_l00Source.m N a0) fun y1 =>
  ob (spec_l00Src_bytes.m N y1 a1) fun y2 =>
  some y2.1
@[reducible] noncomputable def sp (N : Nat) : Spec E := { ps := [.val (.slice 5 (.int .u8)), .val (.int .i64)], rs := [(.slice 5 (.int .u8))], own := true, dp := false, R := R, fn := fun x => m N x.1 x.2.1, res := fun r => (r, ()), out := fun r => ((), (), ()), shut := fun a b => a.1, res_shut := fun _ _ => rfl, out_shut := fun _ _ => rfl }
end spec_BytesOf
/-! ### impl_isText_1: loop.example/g00220/impl.isText$1 -/
namespace impl_isText_1
abbrev R := Bool
noncomputable def m (N : Nat) (a0 : ByteArray) : Option R :=
  some (decide ((a0.size : Int) > (65536:Int)))
@[reducible] noncomputable def sp (N : Nat) : Spec E := { ps := [.val .str], rs := [.bool], own := true, dp := false, R := R, fn := fun x => m N x.1, res := fun r => (r, ()), out := fun r => ((), ()), shut := fun a b => a.1, res_shut := fun _ _ => rfl, out_shut := fun _ _ => rfl }
end impl_isText_1
/-! ### slices_IndexFunc_string_string__impl_isText_1: slices.IndexFunc[[]string,string] -/
namespace slices_IndexFunc_string_string__impl_isText_1
abbrev R := Int
noncomputable def step2 (N : Nat) (a0 : List ByteArray) (rec : (Int × Int) → Option R) : (Int × Int) → Option R
  | (v1, v2) =>
    bif (decide (v2 < v1)) then
      bif (decide (0 ≤ v2)) then
      bif (decide (v2 < (a0.length : Int))) then
      ob (impl_isText_1.m N (a0.getD (Int.toNat v2) ByteArray.empty)) fun y1 =>
      bif y1 then
        some v2
      else
      rec (v1, (w64 (v2 + (1:Int))))
      else none
      else none
    else
    some (-1:Int)
noncomputable def lp2 (N : Nat) (a0 : List ByteArray) : (Int × Int) → Option R :=
  miter (fun rec => step2 N a0 rec) N
noncomputable def m (N : Nat) (a0 : List ByteArray) : Option R :=
  lp2 N a0 ((a0.length : Int), (0:Int))
@[reducible] noncomputable def sp (N : Nat) : Spec E := { ps := [.val (.slice 9 .str), .clo 93 []], rs := [(.int .i64)], own := true, dp := false, R := R, fn := fun x => m N x.1, res := fun r => (r, ()), out := fun r => ((), (), ()), shut := fun a b => a.1, res_shut := fun _ _ => rfl, out_shut := fun _ _ => rfl }
end slices_IndexFunc_string_string__impl_isText_1
/-! ### slices_ContainsFunc_string_string__impl_isText_1: slices.ContainsFunc[[]string,string] -/
namespace slices_ContainsFunc_string_string__impl_isText_1
abbrev R := Bool
noncomputable def m (N : Nat) (a0 : List ByteArray) : Option R :=
  ob (slices_IndexFunc_string_string__impl_isText_1.m N a0) fun y1 =>
  some (decide (y1 ≥ (0:Int)))
@[reducible] noncomputable def sp (N : Nat) : Spec E := { ps := [.val (.slice 9 .str), .clo 93 []], rs := [.bool], own := true, dp := false, R := R, fn := fun x => m N x.1, res := fun r => (r, ()), out := fun r => ((), (), ()), shut := fun a b => a.1, res_shut := fun _ _ => rfl, out_shut := fun _ _ => rfl }
end slices_ContainsFunc_string_string__impl_isText_1
/-! ### impl_isText: loop.example/g00220/impl.isText -/
namespace impl_isText
abbrev R := Bool
noncomputable def m (N : Nat) (a0 : List ByteArray) : Option R :=
  ob (slices_ContainsFunc_string_string__impl_isText_1.m N a0) fun y1 =>
  some (!y1)
@[reducible] noncomputable def sp (N : Nat) : Spec E := { ps := [.val (.slice 9 .str)], rs := [.bool], own := true, dp := false, R := R, fn := fun x => m N x.1, res := fun r => (r, ()), out := fun r => ((), ()), shut := fun a b => a.1, res_shut := fun _ _ => rfl, out_shut := fun _ _ => rfl }
end impl_isText
/-! ### strings_Repeat: strings.Repeat, by the shelf's contract -/
namespace strings_Repeat
abbrev R := ByteArray
def rep (s : ByteArray) (n : Nat) : ByteArray := ⟨((List.replicate n s.data.toList).flatten).toArray⟩
noncomputable def m (N : Nat) (a0 : ByteArray) (a1 : Int) : Option R :=
  bif decide (0 ≤ a1) && decide (a1 ≤ 9223372036854775807) && decide (a0.size * a1.toNat ≤ 140737488355328) then some (rep a0 a1.toNat) else none
@[reducible] noncomputable def sp (N : Nat) : Spec E := { ps := [.val .str, .val (.int .i64)], rs := [.str], own := true, dp := false, R := R, fn := fun x => m N x.1 x.2.1, res := fun r => (r, ()), out := fun r => ((), (), ()), shut := fun a b => a.1, res_shut := fun _ _ => rfl, out_shut := fun _ _ => rfl }
end strings_Repeat
/-! ### impl_number: loop.example/g00220/impl.number -/
namespace impl_number
abbrev R := ByteArray
noncomputable def step3 (N : Nat) (a0 : Int) (a1 : Int) (rec : (Int × Int × (List Int)) → Option R) : (Int × Int × (List Int)) → Option R
  | (v0, v1, v2) =>
    bif (decide (v1 ≥ (0:Int))) then
      bif (decide (0 ≤ v1)) then
      bif (decide (v1 < (v2.length : Int))) then
      bif (!decide ((8:Int) < 0)) then
      rec ((Int.fdiv v0 (2 ^ (min (Int.toNat (8:Int)) 64))), (w64 (v1 - (1:Int))), (v2.set (Int.toNat v1) (wu8 v0)))
      else none
      else none
      else none
    else
    some (strOf v2)
noncomputable def lp3 (N : Nat) (a0 : Int) (a1 : Int) : (Int × Int × (List Int)) → Option R :=
  miter (fun rec => step3 N a0 a1 rec) N
noncomputable def m (N : Nat) (a0 : Int) (a1 : Int) : Option R :=
  bif (decide (0 ≤ a1)) then
  bif (room (Int.toNat a1) 1) then
  lp3 N a0 a1 (a0, (w64 (a1 - (1:Int))), (List.replicate (Int.toNat a1) (0:Int)))
  else none
  else none
@[reducible] noncomputable def sp (N : Nat) : Spec E := { ps := [.val (.int .i64), .val (.int .i64)], rs := [.str], own := true, dp := false, R := R, fn := fun x => m N x.1 x.2.1, res := fun r => (r, ()), out := fun r => ((), (), ()), shut := fun a b => a.1, res_shut := fun _ _ => rfl, out_shut := fun _ _ => rfl }
end impl_number
/-! ### impl_hashWords: loop.example/g00220/impl.hashWords -/
namespace impl_hashWords
abbrev R := (List Int)
noncomputable def m (N : Nat) : Option R :=
  (let w1 : List Int := [(1779033703:Int), (3144134277:Int), (1013904242:Int), (2773480762:Int), (1359893119:Int), (2600822924:Int), (528734635:Int), (1541459225:Int)]
  some w1)
@[reducible] noncomputable def sp (N : Nat) : Spec E := { ps := [], rs := [(.arr .u32 8)], own := true, dp := false, R := R, fn := fun x => m N, res := fun r => (r, ()), out := fun r => (), shut := fun a b => a.1, res_shut := fun _ _ => rfl, out_shut := fun _ _ => rfl }
end impl_hashWords
/-! ### impl_roundWords: loop.example/g00220/impl.roundWords -/
namespace impl_roundWords
abbrev R := (List Int)
noncomputable def m (N : Nat) : Option R :=
  (let w1 : List Int := [(1116352408:Int), (1899447441:Int), (3049323471:Int), (3921009573:Int), (961987163:Int), (1508970993:Int), (2453635748:Int), (2870763221:Int), (3624381080:Int), (310598401:Int), (607225278:Int), (1426881987:Int), (1925078388:Int), (2162078206:Int), (2614888103:Int), (3248222580:Int), (3835390401:Int), (4022224774:Int), (264347078:Int), (604807628:Int), (770255983:Int), (1249150122:Int), (1555081692:Int), (1996064986:Int), (2554220882:Int), (2821834349:Int), (2952996808:Int), (3210313671:Int), (3336571891:Int), (3584528711:Int), (113926993:Int), (338241895:Int), (666307205:Int), (773529912:Int), (1294757372:Int), (1396182291:Int), (1695183700:Int), (1986661051:Int), (2177026350:Int), (2456956037:Int), (2730485921:Int), (2820302411:Int), (3259730800:Int), (3345764771:Int), (3516065817:Int), (3600352804:Int), (4094571909:Int), (275423344:Int), (430227734:Int), (506948616:Int), (659060556:Int), (883997877:Int), (958139571:Int), (1322822218:Int), (1537002063:Int), (1747873779:Int), (1955562222:Int), (2024104815:Int), (2227730452:Int), (2361852424:Int), (2428436474:Int), (2756734187:Int), (3204031479:Int), (3329325298:Int)]
  some w1)
@[reducible] noncomputable def sp (N : Nat) : Spec E := { ps := [], rs := [(.arr .u32 64)], own := true, dp := false, R := R, fn := fun x => m N, res := fun r => (r, ()), out := fun r => (), shut := fun a b => a.1, res_shut := fun _ _ => rfl, out_shut := fun _ _ => rfl }
end impl_roundWords
/-! ### math_bits_RotateLeft32: math/bits.RotateLeft32 -/
namespace math_bits_RotateLeft32
abbrev R := Int
noncomputable def m (N : Nat) (a0 : Int) (a1 : Int) : Option R :=
  bif (!decide ((ibit .and .u64 (wu64 a1) (31:Int)) < 0)) then
  bif (!decide ((wu64 ((32:Int) - (ibit .and .u64 (wu64 a1) (31:Int)))) < 0)) then
  (let w1 : Int := (ibit .or .u32 (wu32 (a0 * 2 ^ (min (Int.toNat (ibit .and .u64 (wu64 a1) (31:Int))) 32))) (Int.fdiv a0 (2 ^ (min (Int.toNat (wu64 ((32:Int) - (ibit .and .u64 (wu64 a1) (31:Int))))) 32))))
  some w1)
  else none
  else none
@[reducible] noncomputable def sp (N : Nat) : Spec E := { ps := [.val (.int .u32), .val (.int .i64)], rs := [(.int .u32)], own := true, dp := false, R := R, fn := fun x => m N x.1 x.2.1, res := fun r => (r, ()), out := fun r => ((), (), ()), shut := fun a b => a.1, res_shut := fun _ _ => rfl, out_shut := fun _ _ => rfl }
end math_bits_RotateLeft32
/-! ### impl_turned: loop.example/g00220/impl.turned -/
namespace impl_turned
abbrev R := Int
noncomputable def m (N : Nat) (a0 : Int) (a1 : Int) : Option R :=
  ob (math_bits_RotateLeft32.m N a0 (w64 (0 - a1))) fun y1 =>
  some y1
@[reducible] noncomputable def sp (N : Nat) : Spec E := { ps := [.val (.int .u32), .val (.int .i64)], rs := [(.int .u32)], own := true, dp := false, R := R, fn := fun x => m N x.1 x.2.1, res := fun r => (r, ()), out := fun r => ((), (), ()), shut := fun a b => a.1, res_shut := fun _ _ => rfl, out_shut := fun _ _ => rfl }
end impl_turned
/-! ### impl_wordsOf: loop.example/g00220/impl.wordsOf -/
namespace impl_wordsOf
abbrev R := (List Int)
noncomputable def step3 (N : Nat) (a0 : ByteArray) (rec : (Int × (List Int) × (List Int)) → Option R) : (Int × (List Int) × (List Int)) → Option R
  | (v1, v2, v3) =>
    bif (decide (v1 < (64:Int))) then
      bif (decide (v1 < (16:Int))) then
        bif (decide (0 ≤ (w64 ((4:Int) * v1)))) then
        bif (decide ((w64 ((4:Int) * v1)) < (a0.size : Int))) then
        bif (!decide ((24:Int) < 0)) then
        bif (decide (0 ≤ (w64 ((w64 ((4:Int) * v1)) + (1:Int))))) then
        bif (decide ((w64 ((w64 ((4:Int) * v1)) + (1:Int))) < (a0.size : Int))) then
        bif (!decide ((16:Int) < 0)) then
        (let w1 : Int := (ibit .or .u32 (wu32 ((wu32 (sb a0 (w64 ((4:Int) * v1)))) * 2 ^ (min (Int.toNat (24:Int)) 32))) (wu32 ((wu32 (sb a0 (w64 ((w64 ((4:Int) * v1)) + (1:Int))))) * 2 ^ (min (Int.toNat (16:Int)) 32))))
        bif (decide (0 ≤ (w64 ((w64 ((4:Int) * v1)) + (2:Int))))) then
        bif (decide ((w64 ((w64 ((4:Int) * v1)) + (2:Int))) < (a0.size : Int))) then
        bif (!decide ((8:Int) < 0)) then
        bif (decide (0 ≤ (w64 ((w64 ((4:Int) * v1)) + (3:Int))))) then
        bif (decide ((w64 ((w64 ((4:Int) * v1)) + (3:Int))) < (a0.size : Int))) then
        (let w2 : Int := (ibit .or .u32 (ibit .or .u32 w1 (wu32 ((wu32 (sb a0 (w64 ((w64 ((4:Int) * v1)) + (2:Int))))) * 2 ^ (min (Int.toNat (8:Int)) 32)))) (wu32 (sb a0 (w64 ((w64 ((4:Int) * v1)) + (3:Int))))))
        bif (decide (0 ≤ v1)) then
        bif (decide (v1 < (64 : Int))) then
        rec ((w64 (v1 + (1:Int))), v2, (v3.set (Int.toNat v1) w2))
        else none
        else none)
        else none
        else none
        else none
        else none
        else none)
        else none
        else none
        else none
        else none
        else none
        else none
      else
      bif (decide (0 ≤ (w64 (v1 - (15:Int))))) then
      bif (decide ((w64 (v1 - (15:Int))) < (64 : Int))) then
      bif (decide (0 ≤ (w64 (v1 - (2:Int))))) then
      bif (decide ((w64 (v1 - (2:Int))) < (64 : Int))) then
      ob (impl_turned.m N (v3.getD (Int.toNat (w64 (v1 - (15:Int)))) 0) (7:Int)) fun y3 =>
      ob (impl_turned.m N (v3.getD (Int.toNat (w64 (v1 - (15:Int)))) 0) (18:Int)) fun y4 =>
      bif (!decide ((3:Int) < 0)) then
      ob (impl_turned.m N (v3.getD (Int.toNat (w64 (v1 - (2:Int)))) 0) (17:Int)) fun y5 =>
      ob (impl_turned.m N (v3.getD (Int.toNat (w64 (v1 - (2:Int)))) 0) (19:Int)) fun y6 =>
      bif (!decide ((10:Int) < 0)) then
      bif (decide (0 ≤ (w64 (v1 - (16:Int))))) then
      bif (decide ((w64 (v1 - (16:Int))) < (64 : Int))) then
      (let w7 : Int := (wu32 ((v3.getD (Int.toNat (w64 (v1 - (16:Int)))) 0) + (ibit .xor .u32 (ibit .xor .u32 y3 y4) (Int.fdiv (v3.getD (Int.toNat (w64 (v1 - (15:Int)))) 0) (2 ^ (min (Int.toNat (3:Int)) 32))))))
      bif (decide (0 ≤ (w64 (v1 - (7:Int))))) then
      bif (decide ((w64 (v1 - (7:Int))) < (64 : Int))) then
      (let w8 : Int := (wu32 ((wu32 (w7 + (v3.getD (Int.toNat (w64 (v1 - (7:Int)))) 0))) + (ibit .xor .u32 (ibit .xor .u32 y5 y6) (Int.fdiv (v3.getD (Int.toNat (w64 (v1 - (2:Int)))) 0) (2 ^ (min (Int.toNat (10:Int)) 32))))))
      bif (decide (0 ≤ v1)) then
      bif (decide (v1 < (64 : Int))) then
      rec ((w64 (v1 + (1:Int))), v2, (v3.set (Int.toNat v1) w8))
      else none
      else none)
      else none
      else none)
      else none
      else none
      else none
      else none
      else none
      else none
      else none
      else none
    else
    some v3
noncomputable def lp3 (N : Nat) (a0 : ByteArray) : (Int × (List Int) × (List Int)) → Option R :=
  miter (fun rec => step3 N a0 rec) N
noncomputable def m (N : Nat) (a0 : ByteArray) : Option R :=
  lp3 N a0 ((0:Int), (List.replicate 64 (0:Int)), (List.replicate 64 (0:Int)))
@[reducible] noncomputable def sp (N : Nat) : Spec E := { ps := [.val .str], rs := [(.arr .u32 64)], own := true, dp := false, R := R, fn := fun x => m N x.1, res := fun r => (r, ()), out := fun r => ((), ()), shut := fun a b => a.1, res_shut := fun _ _ => rfl, out_shut := fun _ _ => rfl }
end impl_wordsOf
/-! ### impl_blockHash: loop.example/g00220/impl.blockHash -/
namespace impl_blockHash
abbrev R := (List Int)
noncomputable def step3 (N : Nat) (a0 : List Int) (a1 : List Int) (a2 : ByteArray) (lp11 : Int × (List Int) × (List Int) → Option R) (rec : (Int × (List Int) × (List Int) × (List Int)) → Option R) : (Int × (List Int) × (List Int) × (List Int)) → Option R
  | (v0, v3, v4, v5) =>
    bif (decide (v0 < (64:Int))) then
      bif (decide (0 ≤ (0:Int))) then
      bif (decide ((0:Int) < (8 : Int))) then
      bif (decide (0 ≤ (1:Int))) then
      bif (decide ((1:Int) < (8 : Int))) then
      bif (decide (0 ≤ (2:Int))) then
      bif (decide ((2:Int) < (8 : Int))) then
      bif (decide (0 ≤ (4:Int))) then
      bif (decide ((4:Int) < (8 : Int))) then
      bif (decide (0 ≤ (5:Int))) then
      bif (decide ((5:Int) < (8 : Int))) then
      bif (decide (0 ≤ (6:Int))) then
      bif (decide ((6:Int) < (8 : Int))) then
      bif (decide (0 ≤ (7:Int))) then
      bif (decide ((7:Int) < (8 : Int))) then
      ob (impl_turned.m N (v4.getD 4 0) (6:Int)) fun y2 =>
      ob (impl_turned.m N (v4.getD 4 0) (11:Int)) fun y3 =>
      ob (impl_turned.m N (v4.getD 4 0) (25:Int)) fun y4 =>
      (let w5 : Int := (ibit .or .u32 (ibit .and .u32 (v4.getD 4 0) (v4.getD 5 0)) (ibit .and .u32 (ibit .xor .u32 (if IntKind.signed .u32 then -1 else IntKind.max .u32) (v4.getD 4 0)) (v4.getD 6 0)))
      bif (decide (0 ≤ v0)) then
      bif (decide (v0 < (64 : Int))) then
      bif (decide (0 ≤ v0)) then
      bif (decide (v0 < (64 : Int))) then
      (let w6 : Int := (wu32 ((wu32 ((wu32 ((wu32 ((v4.getD 7 0) + (ibit .xor .u32 (ibit .xor .u32 y2 y3) y4))) + w5)) + (a1.getD (Int.toNat v0) 0))) + (v5.getD (Int.toNat v0) 0)))
      ob (impl_turned.m N (v4.getD 0 0) (2:Int)) fun y7 =>
      ob (impl_turned.m N (v4.getD 0 0) (13:Int)) fun y8 =>
      ob (impl_turned.m N (v4.getD 0 0) (22:Int)) fun y9 =>
      (let w10 : Int := (ibit .or .u32 (ibit .or .u32 (ibit .and .u32 (v4.getD 0 0) (v4.getD 1 0)) (ibit .and .u32 (v4.getD 0 0) (v4.getD 2 0))) (ibit .and .u32 (v4.getD 1 0) (v4.getD 2 0)))
      bif (decide (0 ≤ (3:Int))) then
      bif (decide ((3:Int) < (8 : Int))) then
      (let w11 : List Int := [(wu32 (w6 + (wu32 ((ibit .xor .u32 (ibit .xor .u32 y7 y8) y9) + w10)))), (v4.getD 0 0), (v4.getD 1 0), (v4.getD 2 0), (wu32 ((v4.getD 3 0) + w6)), (v4.getD 4 0), (v4.getD 5 0), (v4.getD 6 0)]
      rec ((w64 (v0 + (1:Int))), v3, w11, v5))
      else none
      else none))
      else none
      else none
      else none
      else none)
      else none
      else none
      else none
      else none
      else none
      else none
      else none
      else none
      else none
      else none
      else none
      else none
      else none
      else none
    else
    lp11 ((0:Int), v3, v4)
noncomputable def step11 (N : Nat) (a0 : List Int) (a1 : List Int) (a2 : ByteArray) (rec : (Int × (List Int) × (List Int)) → Option R) : (Int × (List Int) × (List Int)) → Option R
  | (v0, v2, v3) =>
    bif (decide (v0 < (8:Int))) then
      bif (decide (0 ≤ v0)) then
      bif (decide (v0 < (8 : Int))) then
      bif (decide (0 ≤ v0)) then
      bif (decide (v0 < (8 : Int))) then
      bif (decide (0 ≤ v0)) then
      bif (decide (v0 < (8 : Int))) then
      rec ((w64 (v0 + (1:Int))), v2, (v3.set (Int.toNat v0) (wu32 ((v3.getD (Int.toNat v0) 0) + (a0.getD (Int.toNat v0) 0)))))
      else none
      else none
      else none
      else none
      else none
      else none
    else
    some v3
noncomputable def lp11 (N : Nat) (a0 : List Int) (a1 : List Int) (a2 : ByteArray) : (Int × (List Int) × (List Int)) → Option R :=
  miter (fun rec => step11 N a0 a1 a2 rec) N
noncomputable def lp3 (N : Nat) (a0 : List Int) (a1 : List Int) (a2 : ByteArray) : (Int × (List Int) × (List Int) × (List Int)) → Option R :=
  miter (fun rec => step3 N a0 a1 a2 (lp11 N a0 a1 a2) rec) N
noncomputable def m (N : Nat) (a0 : List Int) (a1 : List Int) (a2 : ByteArray) : Option R :=
  ob (impl_wordsOf.m N a2) fun y1 =>
  lp3 N a0 a1 a2 ((0:Int), (List.replicate 8 (0:Int)), a0, y1)
@[reducible] noncomputable def sp (N : Nat) : Spec E := { ps := [.val (.arr .u32 8), .val (.arr .u32 64), .val .str], rs := [(.arr .u32 8)], own := true, dp := false, R := R, fn := fun x => m N x.1 x.2.1 x.2.2.1, res := fun r => (r, ()), out := fun r => ((), (), (), ()), shut := fun a b => a.1, res_shut := fun _ _ => rfl, out_shut := fun _ _ => rfl }
end impl_blockHash
/-! ### impl_hash: loop.example/g00220/impl.hash -/
namespace impl_hash
abbrev R := ByteArray
noncomputable def step4 (N : Nat) (a0 : ByteArray) (lp9 : ByteArray × (List Int) × Int → Option R) (rec : (ByteArray × Int × (List Int) × (List Int)) → Option R) : (ByteArray × Int × (List Int) × (List Int)) → Option R
  | (v0, v1, v2, v3) =>
    bif (decide (v1 < (v0.size : Int))) then
      bif (decide (0 ≤ (w64 (v1 + (64:Int))))) then
      bif (decide ((w64 (v1 + (64:Int))) ≤ ((v0.size : Nat) : Int))) then
      bif (decide (0 ≤ v1)) then
      bif (decide (v1 ≤ (((Int.toNat (w64 (v1 + (64:Int)))) : Nat) : Int))) then
      ob (impl_blockHash.m N v2 v3 (v0.extract (Int.toNat v1) (Int.toNat (w64 (v1 + (64:Int)))))) fun y5 =>
      rec (v0, (w64 (v1 + (64:Int))), y5, v3)
      else none
      else none
      else none
      else none
    else
    lp9 (ByteArray.empty, v2, (0:Int))
noncomputable def step9 (N : Nat) (a0 : ByteArray) (rec : (ByteArray × (List Int) × Int) → Option R) : (ByteArray × (List Int) × Int) → Option R
  | (v0, v1, v2) =>
    bif (decide (v2 < (8:Int))) then
      bif (decide (0 ≤ v2)) then
      bif (decide (v2 < (8 : Int))) then
      ob (impl_number.m N (w64 (v1.getD (Int.toNat v2) 0)) (4:Int)) fun y6 =>
      bif (decide (v0.size + y6.size ≤ 9223372036854775807)) then
      rec ((v0 ++ y6), v1, (w64 (v2 + (1:Int))))
      else none
      else none
      else none
    else
    some v0
noncomputable def lp9 (N : Nat) (a0 : ByteArray) : (ByteArray × (List Int) × Int) → Option R :=
  miter (fun rec => step9 N a0 rec) N
noncomputable def lp4 (N : Nat) (a0 : ByteArray) : (ByteArray × Int × (List Int) × (List Int)) → Option R :=
  miter (fun rec => step4 N a0 (lp9 N a0) rec) N
noncomputable def m (N : Nat) (a0 : ByteArray) : Option R :=
  bif (decide (a0.size + (⟨#[128]⟩ : ByteArray).size ≤ 9223372036854775807)) then
  bif (!decide ((64:Int) = 0)) then
  bif (!decide ((64:Int) = 0)) then
  ob (strings_Repeat.m N (⟨#[0]⟩ : ByteArray) (Int.tmod (w64 ((119:Int) - (Int.tmod (a0.size : Int) (64:Int)))) (64:Int))) fun y1 =>
  bif (decide ((a0 ++ (⟨#[128]⟩ : ByteArray)).size + y1.size ≤ 9223372036854775807)) then
  ob (impl_number.m N (w64 ((8:Int) * (a0.size : Int))) (8:Int)) fun y2 =>
  bif (decide (((a0 ++ (⟨#[128]⟩ : ByteArray)) ++ y1).size + y2.size ≤ 9223372036854775807)) then
  ob (impl_hashWords.m N) fun y3 =>
  ob (impl_roundWords.m N) fun y4 =>
  lp4 N a0 ((((a0 ++ (⟨#[128]⟩ : ByteArray)) ++ y1) ++ y2), (0:Int), y3, y4)
  else none
  else none
  else none
  else none
  else none
@[reducible] noncomputable def sp (N : Nat) : Spec E := { ps := [.val .str], rs := [.str], own := true, dp := false, R := R, fn := fun x => m N x.1, res := fun r => (r, ()), out := fun r => ((), ()), shut := fun a b => a.1, res_shut := fun _ _ => rfl, out_shut := fun _ _ => rfl }
end impl_hash
/-! ### impl_digits: loop.example/g00220/impl.digits -/
namespace impl_digits
abbrev R := (List Int)
noncomputable def step4 (N : Nat) (a0 : ByteArray) (rec : (Int × ByteArray × Int × (List Int)) → Option R) : (Int × ByteArray × Int × (List Int)) → Option R
  | (v0, v1, v2, v3) =>
    bif (decide (v2 < (8:Int))) then
      bif (decide (0 ≤ v2)) then
      bif (decide (v2 < (v1.size : Int))) then
      bif (!decide ((4:Int) < 0)) then
      bif (decide (0 ≤ v2)) then
      bif (decide (v2 < (v1.size : Int))) then
      bif (room (v3.length + ([(w64 (Int.fdiv (sb v1 v2) (2 ^ (min (Int.toNat (4:Int)) 8)))), (w64 (ibit .and .u8 (sb v1 v2) (15:Int)))]).length) 8) then
      (let w2 : Int := (w64 (v0 + (w64 ((w64 ((30:Int) - (w64 (Int.fdiv (sb v1 v2) (2 ^ (min (Int.toNat (4:Int)) 8)))))) - (w64 (ibit .and .u8 (sb v1 v2) (15:Int)))))))
      rec (w2, v1, (w64 (v2 + (1:Int))), (v3 ++ [(w64 (Int.fdiv (sb v1 v2) (2 ^ (min (Int.toNat (4:Int)) 8)))), (w64 (ibit .and .u8 (sb v1 v2) (15:Int)))])))
      else none
      else none
      else none
      else none
      else none
      else none
    else
    bif (!decide ((16:Int) = 0)) then
    bif (!decide ((16:Int) = 0)) then
    bif (room (v3.length + ([(w64 (Int.tdiv v0 (16:Int))), (Int.tmod v0 (16:Int))]).length) 8) then
    some (v3 ++ [(w64 (Int.tdiv v0 (16:Int))), (Int.tmod v0 (16:Int))])
    else none
    else none
    else none
noncomputable def lp4 (N : Nat) (a0 : ByteArray) : (Int × ByteArray × Int × (List Int)) → Option R :=
  miter (fun rec => step4 N a0 rec) N
noncomputable def m (N : Nat) (a0 : ByteArray) : Option R :=
  ob (impl_hash.m N a0) fun y1 =>
  lp4 N a0 ((0:Int), y1, (0:Int), ([] : List Int))
@[reducible] noncomputable def sp (N : Nat) : Spec E := { ps := [.val .str], rs := [(.slice 3 (.int .i64))], own := true, dp := false, R := R, fn := fun x => m N x.1, res := fun r => (r, ()), out := fun r => ((), ()), shut := fun a b => a.1, res_shut := fun _ _ => rfl, out_shut := fun _ _ => rfl }
end impl_digits
/-! ### impl_Digits: loop.example/g00220/impl.Digits -/
namespace impl_Digits
abbrev R := (List Int) × Int
noncomputable def m (N : Nat) (a0 : ByteArray) : Option R :=
  ob (impl_isText.m N ([a0])) fun y1 =>
  bif (!y1) then
    some (([] : List Int), (2:Int))
  else
  ob (impl_digits.m N a0) fun y2 =>
  some (y2, (0:Int))
@[reducible] noncomputable def sp (N : Nat) : Spec E := { ps := [.val .str], rs := [(.slice 3 (.int .i64)), (.int .i64)], own := true, dp := false, R := R, fn := fun x => m N x.1, res := fun r => (r.1, r.2, ()), out := fun r => ((), ()), shut := fun a b => (a.1, a.2.1), res_shut := fun _ _ => rfl, out_shut := fun _ _ => rfl }
end impl_Digits
/-! ### spec_l00Src_pick_: (*loop.example/g00220/spec.l00Src).pick -/
namespace spec_l00Src_pick_
abbrev R := ByteArray × l00Src
noncomputable def m (N : Nat) (a0 : l00Src) (a1 : List ByteArray) : Option R :=
  bif ((a1.length : Int) == (0:Int)) then
    some (ByteArray.empty, a0)
  else
  ob (spec_l00Src_next_.m N a0 (a1.length : Int)) fun y1 =>
  bif (decide (0 ≤ y1.1)) then
  bif (decide (y1.1 < (a1.length : Int))) then
  some ((a1.getD (Int.toNat y1.1) ByteArray.empty), y1.2)
  else none
  else none
@[reducible] noncomputable def sp (N : Nat) : Spec E := { ps := [.box false 96 96, .val (.slice 9 .str)], rs := [.str], own := true, dp := false, R := R, fn := fun x => m N x.1 x.2.1, res := fun r => (r.1, ()), out := fun r => (r.2, (), ()), shut := fun a b => (a.1, b.1), res_shut := fun _ _ => rfl, out_shut := fun _ _ => rfl }
end spec_l00Src_pick_
/-! ### spec_l00Src_message: (*loop.example/g00220/spec.l00Src).message -/
namespace spec_l00Src_message
abbrev R := ByteArray × l00Src
noncomputable def m (N : Nat) (a0 : l00Src) : Option R :=
  (let w1 : List ByteArray := [ByteArray.empty, (⟨#[104, 101, 108, 108, 111]⟩ : ByteArray), (⟨#[97, 32, 114, 111, 111, 116]⟩ : ByteArray), (⟨#[98]⟩ : ByteArray), (⟨#[109, 101, 115, 115, 97, 103, 101]⟩ : ByteArray)]
  ob (spec_l00Src_pick_.m N a0 w1) fun y2 =>
  some (y2.1, y2.2))
@[reducible] noncomputable def sp (N : Nat) : Spec E := { ps := [.box false 96 96], rs := [.str], own := true, dp := false, R := R, fn := fun x => m N x.1, res := fun r => (r.1, ()), out := fun r => (r.2, ()), shut := fun a b => (a.1, b.1), res_shut := fun _ _ => rfl, out_shut := fun _ _ => rfl }
end spec_l00Src_message
/-! ### spec_MessageOf: loop.example/g00220/spec.MessageOf -/
namespace spec_MessageOf
abbrev R := ByteArray
noncomputable def m (N : Nat) (a0 : List Int) : Option R :=
  ob (spec_l00Source.m N a0) fun y1 =>
  ob (spec_l00Src_message.m N y1) fun y2 =>
  some y2.1
@[reducible] noncomputable def sp (N : Nat) : Spec E := { ps := [.val (.slice 5 (.int .u8))], rs := [.str], own := true, dp := false, R := R, fn := fun x => m N x.1, res := fun r => (r, ()), out := fun r => ((), ()), shut := fun a b => a.1, res_shut := fun _ _ => rfl, out_shut := fun _ _ => rfl }
end spec_MessageOf
/-! ### spec_l01Consts: loop.example/g00220/spec.l01Consts -/
namespace spec_l01Consts
abbrev R := (List Int)
noncomputable def m (N : Nat) : Option R :=
  (let w1 : List Int := [(1116352408:Int), (1899447441:Int), (3049323471:Int), (3921009573:Int), (961987163:Int), (1508970993:Int), (2453635748:Int), (2870763221:Int), (3624381080:Int), (310598401:Int), (607225278:Int), (1426881987:Int), (1925078388:Int), (2162078206:Int), (2614888103:Int), (3248222580:Int), (3835390401:Int), (4022224774:Int), (264347078:Int), (604807628:Int), (770255983:Int), (1249150122:Int), (1555081692:Int), (1996064986:Int), (2554220882:Int), (2821834349:Int), (2952996808:Int), (3210313671:Int), (3336571891:Int), (3584528711:Int), (113926993:Int), (338241895:Int), (666307205:Int), (773529912:Int), (1294757372:Int), (1396182291:Int), (1695183700:Int), (1986661051:Int), (2177026350:Int), (2456956037:Int), (2730485921:Int), (2820302411:Int), (3259730800:Int), (3345764771:Int), (3516065817:Int), (3600352804:Int), (4094571909:Int), (275423344:Int), (430227734:Int), (506948616:Int), (659060556:Int), (883997877:Int), (958139571:Int), (1322822218:Int), (1537002063:Int), (1747873779:Int), (1955562222:Int), (2024104815:Int), (2227730452:Int), (2361852424:Int), (2428436474:Int), (2756734187:Int), (3204031479:Int), (3329325298:Int)]
  some w1)
@[reducible] noncomputable def sp (N : Nat) : Spec E := { ps := [], rs := [(.slice 102 (.int .u32))], own := true, dp := false, R := R, fn := fun x => m N, res := fun r => (r, ()), out := fun r => (), shut := fun a b => a.1, res_shut := fun _ _ => rfl, out_shut := fun _ _ => rfl }
end spec_l01Consts
/-! ### spec_l01Turn: loop.example/g00220/spec.l01Turn -/
namespace spec_l01Turn
abbrev R := Int
noncomputable def m (N : Nat) (a0 : Int) (a1 : Int) : Option R :=
  bif (!decide (a1 < 0)) then
  bif (!decide ((wu64 ((32:Int) - a1)) < 0)) then
  some (ibit .or .u32 (Int.fdiv a0 (2 ^ (min (Int.toNat a1) 32))) (wu32 (a0 * 2 ^ (min (Int.toNat (wu64 ((32:Int) - a1))) 32))))
  else none
  else none
@[reducible] noncomputable def sp (N : Nat) : Spec E := { ps := [.val (.int .u32), .val (.int .u64)], rs := [(.int .u32)], own := true, dp := false, R := R, fn := fun x => m N x.1 x.2.1, res := fun r => (r, ()), out := fun r => ((), (), ()), shut := fun a b => a.1, res_shut := fun _ _ => rfl, out_shut := fun _ _ => rfl }
end spec_l01Turn
/-! ### spec_l01Block: loop.example/g00220/spec.l01Block -/
namespace spec_l01Block
abbrev R := (List Int)
noncomputable def step2 (N : Nat) (a0 : List Int) (a1 : List Int) (a2 : List Int) (lp6 : Int × (List Int) → Option R) (rec : (Int × (List Int)) → Option R) : (Int × (List Int)) → Option R
  | (v2, v4) =>
    bif (decide (v2 < (16:Int))) then
      bif (decide (0 ≤ (w64 ((4:Int) * v2)))) then
      bif (decide ((w64 ((4:Int) * v2)) < (a1.length : Int))) then
      bif (!decide ((24:Int) < 0)) then
      bif (decide (0 ≤ (w64 ((w64 ((4:Int) * v2)) + (1:Int))))) then
      bif (decide ((w64 ((w64 ((4:Int) * v2)) + (1:Int))) < (a1.length : Int))) then
      bif (!decide ((16:Int) < 0)) then
      (let w1 : Int := (ibit .or .u32 (wu32 ((wu32 (a1.getD (Int.toNat (w64 ((4:Int) * v2))) (0:Int))) * 2 ^ (min (Int.toNat (24:Int)) 32))) (wu32 ((wu32 (a1.getD (Int.toNat (w64 ((w64 ((4:Int) * v2)) + (1:Int)))) (0:Int))) * 2 ^ (min (Int.toNat (16:Int)) 32))))
      bif (decide (0 ≤ (w64 ((w64 ((4:Int) * v2)) + (2:Int))))) then
      bif (decide ((w64 ((w64 ((4:Int) * v2)) + (2:Int))) < (a1.length : Int))) then
      bif (!decide ((8:Int) < 0)) then
      bif (decide (0 ≤ (w64 ((w64 ((4:Int) * v2)) + (3:Int))))) then
      bif (decide ((w64 ((w64 ((4:Int) * v2)) + (3:Int))) < (a1.length : Int))) then
      (let w2 : Int := (ibit .or .u32 (ibit .or .u32 w1 (wu32 ((wu32 (a1.getD (Int.toNat (w64 ((w64 ((4:Int) * v2)) + (2:Int)))) (0:Int))) * 2 ^ (min (Int.toNat (8:Int)) 32)))) (wu32 (a1.getD (Int.toNat (w64 ((w64 ((4:Int) * v2)) + (3:Int)))) (0:Int))))
      bif (decide (0 ≤ v2)) then
      bif (decide (v2 < (v4.length : Int))) then
      rec ((w64 (v2 + (1:Int))), (v4.set (Int.toNat v2) w2))
      else none
      else none)
      else none
      else none
      else none
      else none
      else none)
      else none
      else none
      else none
      else none
      else none
      else none
    else
    lp6 ((16:Int), v4)
noncomputable def step6 (N : Nat) (a0 : List Int) (a1 : List Int) (a2 : List Int) (lp13 : Int × (List Int) × (List Int) → Option R) (rec : (Int × (List Int)) → Option R) : (Int × (List Int)) → Option R
  | (v1, v3) =>
    bif (decide (v1 < (64:Int))) then
      bif (decide (0 ≤ (w64 (v1 - (15:Int))))) then
      bif (decide ((w64 (v1 - (15:Int))) < (v3.length : Int))) then
      bif (decide (0 ≤ (w64 (v1 - (2:Int))))) then
      bif (decide ((w64 (v1 - (2:Int))) < (v3.length : Int))) then
      bif (decide (0 ≤ (w64 (v1 - (16:Int))))) then
      bif (decide ((w64 (v1 - (16:Int))) < (v3.length : Int))) then
      ob (spec_l01Turn.m N (v3.getD (Int.toNat (w64 (v1 - (15:Int)))) (0:Int)) (7:Int)) fun y3 =>
      ob (spec_l01Turn.m N (v3.getD (Int.toNat (w64 (v1 - (15:Int)))) (0:Int)) (18:Int)) fun y4 =>
      bif (!decide ((3:Int) < 0)) then
      (let w5 : Int := (wu32 ((v3.getD (Int.toNat (w64 (v1 - (16:Int)))) (0:Int)) + (ibit .xor .u32 (ibit .xor .u32 y3 y4) (Int.fdiv (v3.getD (Int.toNat (w64 (v1 - (15:Int)))) (0:Int)) (2 ^ (min (Int.toNat (3:Int)) 32))))))
      bif (decide (0 ≤ (w64 (v1 - (7:Int))))) then
      bif (decide ((w64 (v1 - (7:Int))) < (v3.length : Int))) then
      ob (spec_l01Turn.m N (v3.getD (Int.toNat (w64 (v1 - (2:Int)))) (0:Int)) (17:Int)) fun y6 =>
      ob (spec_l01Turn.m N (v3.getD (Int.toNat (w64 (v1 - (2:Int)))) (0:Int)) (19:Int)) fun y7 =>
      bif (!decide ((10:Int) < 0)) then
      (let w8 : Int := (wu32 ((wu32 (w5 + (v3.getD (Int.toNat (w64 (v1 - (7:Int)))) (0:Int)))) + (ibit .xor .u32 (ibit .xor .u32 y6 y7) (Int.fdiv (v3.getD (Int.toNat (w64 (v1 - (2:Int)))) (0:Int)) (2 ^ (min (Int.toNat (10:Int)) 32))))))
      bif (decide (0 ≤ v1)) then
      bif (decide (v1 < (v3.length : Int))) then
      rec ((w64 (v1 + (1:Int))), (v3.set (Int.toNat v1) w8))
      else none
      else none)
      else none
      else none
      else none)
      else none
      else none
      else none
      else none
      else none
      else none
      else none
    else
    bif (room (([] : List Int).length + a0.length) 4) then
    lp13 ((0:Int), v3, (([] : List Int) ++ a0))
    else none
noncomputable def step13 (N : Nat) (a0 : List Int) (a1 : List Int) (a2 : List Int) (lp21 : Int × (List Int) × (List Int) → Option R) (rec : (Int × (List Int) × (List Int)) → Option R) : (Int × (List Int) × (List Int)) → Option R
  | (v1, v3, v4) =>
    bif (decide (v1 < (64:Int))) then
      bif (decide (0 ≤ (4:Int))) then
      bif (decide ((4:Int) < (v4.length : Int))) then
      bif (decide (0 ≤ (0:Int))) then
      bif (decide ((0:Int) < (v4.length : Int))) then
      bif (decide (0 ≤ (7:Int))) then
      bif (decide ((7:Int) < (v4.length : Int))) then
      ob (spec_l01Turn.m N (v4.getD 4 (0:Int)) (6:Int)) fun y9 =>
      ob (spec_l01Turn.m N (v4.getD 4 (0:Int)) (11:Int)) fun y10 =>
      ob (spec_l01Turn.m N (v4.getD 4 (0:Int)) (25:Int)) fun y11 =>
      bif (decide (0 ≤ (5:Int))) then
      bif (decide ((5:Int) < (v4.length : Int))) then
      bif (decide (0 ≤ (6:Int))) then
      bif (decide ((6:Int) < (v4.length : Int))) then
      (let w12 : Int := (ibit .xor .u32 (ibit .and .u32 (v4.getD 4 (0:Int)) (v4.getD 5 (0:Int))) (ibit .and .u32 (ibit .xor .u32 (if IntKind.signed .u32 then -1 else IntKind.max .u32) (v4.getD 4 (0:Int))) (v4.getD 6 (0:Int))))
      bif (decide (0 ≤ v1)) then
      bif (decide (v1 < (a2.length : Int))) then
      bif (decide (0 ≤ v1)) then
      bif (decide (v1 < (v3.length : Int))) then
      (let w13 : Int := (wu32 ((wu32 ((wu32 ((wu32 ((v4.getD 7 (0:Int)) + (ibit .xor .u32 (ibit .xor .u32 y9 y10) y11))) + w12)) + (a2.getD (Int.toNat v1) (0:Int)))) + (v3.getD (Int.toNat v1) (0:Int))))
      ob (spec_l01Turn.m N (v4.getD 0 (0:Int)) (2:Int)) fun y14 =>
      ob (spec_l01Turn.m N (v4.getD 0 (0:Int)) (13:Int)) fun y15 =>
      ob (spec_l01Turn.m N (v4.getD 0 (0:Int)) (22:Int)) fun y16 =>
      bif (decide (0 ≤ (1:Int))) then
      bif (decide ((1:Int) < (v4.length : Int))) then
      bif (decide (0 ≤ (2:Int))) then
      bif (decide ((2:Int) < (v4.length : Int))) then
      bif (decide (0 ≤ (1:Int))) then
      bif (decide ((1:Int) < (v4.length : Int))) then
      bif (decide (0 ≤ (2:Int))) then
      bif (decide ((2:Int) < (v4.length : Int))) then
      (let w17 : Int := (ibit .xor .u32 (ibit .xor .u32 (ibit .and .u32 (v4.getD 0 (0:Int)) (v4.getD 1 (0:Int))) (ibit .and .u32 (v4.getD 0 (0:Int)) (v4.getD 2 (0:Int)))) (ibit .and .u32 (v4.getD 1 (0:Int)) (v4.getD 2 (0:Int))))
      bif (decide (0 ≤ (0:Int))) then
      bif (decide ((0:Int) < (v4.length : Int))) then
      bif (decide (0 ≤ (1:Int))) then
      bif (decide ((1:Int) < (v4.length : Int))) then
      bif (decide (0 ≤ (2:Int))) then
      bif (decide ((2:Int) < (v4.length : Int))) then
      bif (decide (0 ≤ (3:Int))) then
      bif (decide ((3:Int) < (v4.length : Int))) then
      bif (decide (0 ≤ (4:Int))) then
      bif (decide ((4:Int) < (v4.length : Int))) then
      bif (decide (0 ≤ (5:Int))) then
      bif (decide ((5:Int) < (v4.length : Int))) then
      bif (decide (0 ≤ (6:Int))) then
      bif (decide ((6:Int) < (v4.length : Int))) then
      (let w18 : List Int := [(wu32 (w13 + (wu32 ((ibit .xor .u32 (ibit .xor .u32 y14 y15) y16) + w17)))), (v4.getD 0 (0:Int)), (v4.getD 1 (0:Int)), (v4.getD 2 (0:Int)), (wu32 ((v4.getD 3 (0:Int)) + w13)), (v4.getD 4 (0:Int)), (v4.getD 5 (0:Int)), (v4.getD 6 (0:Int))]
      rec ((w64 (v1 + (1:Int))), v3, w18))
      else none
      else none
      else none
      else none
      else none
      else none
      else none
      else none
      else none
      else none
      else none
      else none
      else none
      else none)
      else none
      else none
      else none
      else none
      else none
      else none
      else none
      else none)
      else none
      else none
      else none
      else none)
      else none
      else none
      else none
      else none
      else none
      else none
      else none
      else none
      else none
      else none
    else
    lp21 ((0:Int), a0, v4)
noncomputable def step21 (N : Nat) (a0 : List Int) (a1 : List Int) (a2 : List Int) (rec : (Int × (List Int) × (List Int)) → Option R) : (Int × (List Int) × (List Int)) → Option R
  | (v0, v1, v2) =>
    bif (decide (v0 < (8:Int))) then
      bif (decide (0 ≤ v0)) then
      bif (decide (v0 < (v1.length : Int))) then
      bif (decide (0 ≤ v0)) then
      bif (decide (v0 < (v2.length : Int))) then
      bif (decide (0 ≤ v0)) then
      bif (decide (v0 < (v1.length : Int))) then
      rec ((w64 (v0 + (1:Int))), (v1.set (Int.toNat v0) (wu32 ((v1.getD (Int.toNat v0) (0:Int)) + (v2.getD (Int.toNat v0) (0:Int))))), v2)
      else none
      else none
      else none
      else none
      else none
      else none
    else
    some v1
noncomputable def lp21 (N : Nat) (a0 : List Int) (a1 : List Int) (a2 : List Int) : (Int × (List Int) × (List Int)) → Option R :=
  miter (fun rec => step21 N a0 a1 a2 rec) N
noncomputable def lp13 (N : Nat) (a0 : List Int) (a1 : List Int) (a2 : List Int) : (Int × (List Int) × (List Int)) → Option R :=
  miter (fun rec => step13 N a0 a1 a2 (lp21 N a0 a1 a2) rec) N
noncomputable def lp6 (N : Nat) (a0 : List Int) (a1 : List Int) (a2 : List Int) : (Int × (List Int)) → Option R :=
  miter (fun rec => step6 N a0 a1 a2 (lp13 N a0 a1 a2) rec) N
noncomputable def lp2 (N : Nat) (a0 : List Int) (a1 : List Int) (a2 : List Int) : (Int × (List Int)) → Option R :=
  miter (fun rec => step2 N a0 a1 a2 (lp6 N a0 a1 a2) rec) N
noncomputable def m (N : Nat) (a0 : List Int) (a1 : List Int) (a2 : List Int) : Option R :=
  bif (decide (0 ≤ (64:Int))) then
  bif (room 64 4) then
  lp2 N a0 a1 a2 ((0:Int), (List.replicate 64 (0:Int)))
  else none
  else none
@[reducible] noncomputable def sp (N : Nat) : Spec E := { ps := [.mut false (.slice 102 (.int .u32)), .val (.slice 5 (.int .u8)), .val (.slice 102 (.int .u32))], rs := [], own := true, dp := false, R := R, fn := fun x => m N x.1 x.2.1 x.2.2.1, res := fun r => (), out := fun r => (r, (), (), ()), shut := fun a b => b.1, res_shut := fun _ _ => rfl, out_shut := fun _ _ => rfl }
end spec_l01Block
/-! ### spec_l01Hash: loop.example/g00220/spec.l01Hash -/
namespace spec_l01Hash
abbrev R := ByteArray
noncomputable def step3 (N : Nat) (a0 : List Int) (lp6 : Int × (List Int) × (List Int) → Option R) (rec : ((List Int) × (List Int)) → Option R) : ((List Int) × (List Int)) → Option R
  | (v1, v2) =>
    bif (!decide ((64:Int) = 0)) then
    bif ((Int.tmod (v2.length : Int) (64:Int)) != (56:Int)) then
      bif (room (v2.length + ([(0:Int)]).length) 1) then
      rec (v1, (v2 ++ [(0:Int)]))
      else none
    else
    lp6 ((7:Int), v1, v2)
    else none
noncomputable def step6 (N : Nat) (a0 : List Int) (lp11 : Int × (List Int) × (List Int) × (List Int) → Option R) (rec : (Int × (List Int) × (List Int)) → Option R) : (Int × (List Int) × (List Int)) → Option R
  | (v1, v2, v3) =>
    bif (decide (v1 ≥ (0:Int))) then
      bif (!decide ((wu64 (w64 ((8:Int) * v1))) < 0)) then
      bif (room (v3.length + ([(wu8 (Int.fdiv (w64 ((8:Int) * (a0.length : Int))) (2 ^ (min (Int.toNat (wu64 (w64 ((8:Int) * v1)))) 64))))]).length) 1) then
      rec ((w64 (v1 - (1:Int))), v2, (v3 ++ [(wu8 (Int.fdiv (w64 ((8:Int) * (a0.length : Int))) (2 ^ (min (Int.toNat (wu64 (w64 ((8:Int) * v1)))) 64))))]))
      else none
      else none
    else
    ob (spec_l01Consts.m N) fun y2 =>
    lp11 ((0:Int), v2, v3, y2)
noncomputable def step11 (N : Nat) (a0 : List Int) (lp16 : Int × (List Int) × (List Int) → Option R) (rec : (Int × (List Int) × (List Int) × (List Int)) → Option R) : (Int × (List Int) × (List Int) × (List Int)) → Option R
  | (v0, v1, v2, v3) =>
    bif (decide (v0 < (v2.length : Int))) then
      bif (decide (0 ≤ (w64 (v0 + (64:Int))))) then
      bif (decide ((w64 (v0 + (64:Int))) ≤ ((v2.length : Nat) : Int))) then
      bif (decide (0 ≤ v0)) then
      bif (decide (v0 ≤ (((Int.toNat (w64 (v0 + (64:Int)))) : Nat) : Int))) then
      bif (decide ((Int.toNat v0) + ((Int.toNat (w64 (v0 + (64:Int)))) - (Int.toNat v0)) ≤ v2.length)) then
      ob (spec_l01Block.m N v1 ((v2.drop (Int.toNat v0)).take ((Int.toNat (w64 (v0 + (64:Int)))) - (Int.toNat v0))) v3) fun y3 =>
      rec ((w64 (v0 + (64:Int))), y3, v2, v3)
      else none
      else none
      else none
      else none
      else none
    else
    lp16 ((0:Int), v1, ([] : List Int))
noncomputable def step16 (N : Nat) (a0 : List Int) (rec : (Int × (List Int) × (List Int)) → Option R) : (Int × (List Int) × (List Int)) → Option R
  | (v0, v1, v2) =>
    bif (decide (v0 < (8:Int))) then
      bif (decide (0 ≤ v0)) then
      bif (decide (v0 < (v1.length : Int))) then
      bif (!decide ((24:Int) < 0)) then
      bif (decide (0 ≤ v0)) then
      bif (decide (v0 < (v1.length : Int))) then
      bif (!decide ((16:Int) < 0)) then
      bif (decide (0 ≤ v0)) then
      bif (decide (v0 < (v1.length : Int))) then
      bif (!decide ((8:Int) < 0)) then
      bif (decide (0 ≤ v0)) then
      bif (decide (v0 < (v1.length : Int))) then
      (let w4 : List Int := [(wu8 (Int.fdiv (v1.getD (Int.toNat v0) (0:Int)) (2 ^ (min (Int.toNat (24:Int)) 32)))), (wu8 (Int.fdiv (v1.getD (Int.toNat v0) (0:Int)) (2 ^ (min (Int.toNat (16:Int)) 32)))), (wu8 (Int.fdiv (v1.getD (Int.toNat v0) (0:Int)) (2 ^ (min (Int.toNat (8:Int)) 32)))), (wu8 (v1.getD (Int.toNat v0) (0:Int)))]
      bif (room (v2.length + w4.length) 1) then
      rec ((w64 (v0 + (1:Int))), v1, (v2 ++ w4))
      else none)
      else none
      else none
      else none
      else none
      else none
      else none
      else none
      else none
      else none
      else none
      else none
    else
    some (strOf v2)
noncomputable def lp16 (N : Nat) (a0 : List Int) : (Int × (List Int) × (List Int)) → Option R :=
  miter (fun rec => step16 N a0 rec) N
noncomputable def lp11 (N : Nat) (a0 : List Int) : (Int × (List Int) × (List Int) × (List Int)) → Option R :=
  miter (fun rec => step11 N a0 (lp16 N a0) rec) N
noncomputable def lp6 (N : Nat) (a0 : List Int) : (Int × (List Int) × (List Int)) → Option R :=
  miter (fun rec => step6 N a0 (lp11 N a0) rec) N
noncomputable def lp3 (N : Nat) (a0 : List Int) : ((List Int) × (List Int)) → Option R :=
  miter (fun rec => step3 N a0 (lp6 N a0) rec) N
noncomputable def m (N : Nat) (a0 : List Int) : Option R :=
  (let w1 : List Int := [(1779033703:Int), (3144134277:Int), (1013904242:Int), (2773480762:Int), (1359893119:Int), (2600822924:Int), (528734635:Int), (1541459225:Int)]
  bif (room (([] : List Int).length + a0.length) 1) then
  bif (room ((([] : List Int) ++ a0).length + ([(128:Int)]).length) 1) then
  lp3 N a0 (w1, ((([] : List Int) ++ a0) ++ [(128:Int)]))
  else none
  else none)
@[reducible] noncomputable def sp (N : Nat) : Spec E := { ps := [.val (.slice 5 (.int .u8))], rs := [.str], own := true, dp := false, R := R, fn := fun x => m N x.1, res := fun r => (r, ()), out := fun r => ((), ()), shut := fun a b => a.1, res_shut := fun _ _ => rfl, out_shut := fun _ _ => rfl }
end spec_l01Hash
/-! ### spec_l08Digits: loop.example/g00220/spec.l08Digits -/
namespace spec_l08Digits
abbrev R := (List Int)
noncomputable def step5 (N : Nat) (a0 : ByteArray) (lp9 : Int × Int × (List Int) → Option R) (rec : (ByteArray × Int × Int × (List Int)) → Option R) : (ByteArray × Int × Int × (List Int)) → Option R
  | (v0, v1, v2, v3) =>
    bif (decide (v2 < (8:Int))) then
      bif (decide (0 ≤ v2)) then
      bif (decide (v2 < (v0.size : Int))) then
      bif (!decide ((16:Int) = 0)) then
      bif (decide (0 ≤ v2)) then
      bif (decide (v2 < (v0.size : Int))) then
      bif (!decide ((16:Int) = 0)) then
      bif (room (v3.length + ([(w64 (wu8 (Int.tdiv (sb v0 v2) (16:Int)))), (w64 (Int.tmod (sb v0 v2) (16:Int)))]).length) 8) then
      rec (v0, v1, (w64 (v2 + (1:Int))), (v3 ++ [(w64 (wu8 (Int.tdiv (sb v0 v2) (16:Int)))), (w64 (Int.tmod (sb v0 v2) (16:Int)))]))
      else none
      else none
      else none
      else none
      else none
      else none
      else none
    else
    lp9 (v1, (0:Int), v3)
noncomputable def step9 (N : Nat) (a0 : ByteArray) (rec : (Int × Int × (List Int)) → Option R) : (Int × Int × (List Int)) → Option R
  | (v0, v1, v2) =>
    bif (decide (v1 < (16:Int))) then
      bif (decide (0 ≤ v1)) then
      bif (decide (v1 < (v2.length : Int))) then
      rec ((w64 (v0 + (w64 ((15:Int) - (v2.getD (Int.toNat v1) (0:Int)))))), (w64 (v1 + (1:Int))), v2)
      else none
      else none
    else
    bif (!decide ((16:Int) = 0)) then
    bif (!decide ((16:Int) = 0)) then
    bif (room (v2.length + ([(w64 (Int.tdiv v0 (16:Int))), (Int.tmod v0 (16:Int))]).length) 8) then
    some (v2 ++ [(w64 (Int.tdiv v0 (16:Int))), (Int.tmod v0 (16:Int))])
    else none
    else none
    else none
noncomputable def lp9 (N : Nat) (a0 : ByteArray) : (Int × Int × (List Int)) → Option R :=
  miter (fun rec => step9 N a0 rec) N
noncomputable def lp5 (N : Nat) (a0 : ByteArray) : (ByteArray × Int × Int × (List Int)) → Option R :=
  miter (fun rec => step5 N a0 (lp9 N a0) rec) N
noncomputable def m (N : Nat) (a0 : ByteArray) : Option R :=
  ob (spec_l01Hash.m N (bytesOf a0)) fun y1 =>
  lp5 N a0 (y1, (0:Int), (0:Int), ([] : List Int))
@[reducible] noncomputable def sp (N : Nat) : Spec E := { ps := [.val .str], rs := [(.slice 3 (.int .i64))], own := true, dp := false, R := R, fn := fun x => m N x.1, res := fun r => (r, ()), out := fun r => ((), ()), shut := fun a b => a.1, res_shut := fun _ _ => rfl, out_shut := fun _ _ => rfl }
end spec_l08Digits
/-! ### spec_Digits: loop.example/g00220/spec.Digits -/
namespace spec_Digits
abbrev R := (List Int) × Int
noncomputable def m (N : Nat) (a0 : ByteArray) : Option R :=
  bif (decide ((a0.size : Int) > (65536:Int))) then
    some (([] : List Int), (2:Int))
  else
  ob (spec_l08Digits.m N a0) fun y1 =>
  some (y1, (0:Int))
@[reducible] noncomputable def sp (N : Nat) : Spec E := { ps := [.val .str], rs := [(.slice 3 (.int .i64)), (.int .i64)], own := true, dp := false, R := R, fn := fun x => m N x.1, res := fun r => (r.1, r.2, ()), out := fun r => ((), ()), shut := fun a b => (a.1, a.2.1), res_shut := fun _ _ => rfl, out_shut := fun _ _ => rfl }
end spec_Digits
/-! ### laws_sameInts: loop.example/g00220/laws.sameInts -/
namespace laws_sameInts
abbrev R := Bool
noncomputable def step4 (N : Nat) (a0 : List Int) (a1 : List Int) (rec : Int → Option R) : Int → Option R
  | v2 =>
    bif (decide (v2 < (a0.length : Int))) then
      bif (decide (0 ≤ v2)) then
      bif (decide (v2 < (a0.length : Int))) then
      bif (decide (0 ≤ v2)) then
      bif (decide (v2 < (a1.length : Int))) then
      bif ((a0.getD (Int.toNat v2) (0:Int)) != (a1.getD (Int.toNat v2) (0:Int))) then
        some false
      else
      rec (w64 (v2 + (1:Int)))
      else none
      else none
      else none
      else none
    else
    some true
noncomputable def lp4 (N : Nat) (a0 : List Int) (a1 : List Int) : Int → Option R :=
  miter (fun rec => step4 N a0 a1 rec) N
noncomputable def m (N : Nat) (a0 : List Int) (a1 : List Int) : Option R :=
  bif ((a0.length : Int) != (a1.length : Int)) then
    some false
  else
  lp4 N a0 a1 (0:Int)
@[reducible] noncomputable def sp (N : Nat) : Spec E := { ps := [.val (.slice 3 (.int .i64)), .val (.slice 3 (.int .i64))], rs := [.bool], own := true, dp := false, R := R, fn := fun x => m N x.1 x.2.1, res := fun r => (r, ()), out := fun r => ((), (), ()), shut := fun a b => a.1, res_shut := fun _ _ => rfl, out_shut := fun _ _ => rfl }
end laws_sameInts
/-! ### spec_l00Src_digest: (*loop.example/g00220/spec.l00Src).digest -/
namespace spec_l00Src_digest
abbrev R := ByteArray × l00Src
noncomputable def m (N : Nat) (a0 : l00Src) : Option R :=
  ob (spec_l00Src_next_.m N a0 (256:Int)) fun y1 =>
  ob (spec_l00Src_next_.m N y1.2 (4:Int)) fun y2 =>
  ob (spec_l01Hash.m N ([(wu8 y1.1), (wu8 y2.1)])) fun y3 =>
  some (y3, y2.2)
@[reducible] noncomputable def sp (N : Nat) : Spec E := { ps := [.box false 96 96], rs := [.str], own := true, dp := false, R := R, fn := fun x => m N x.1, res := fun r => (r.1, ()), out := fun r => (r.2, ()), shut := fun a b => (a.1, b.1), res_shut := fun _ _ => rfl, out_shut := fun _ _ => rfl }
end spec_l00Src_digest
/-! ### spec_HashOf: loop.example/g00220/spec.HashOf -/
namespace spec_HashOf
abbrev R := ByteArray
noncomputable def m (N : Nat) (a0 : List Int) : Option R :=
  ob (spec_l00Source.m N a0) fun y1 =>
  ob (spec_l00Src_digest.m N y1) fun y2 =>
  some y2.1
@[reducible] noncomputable def sp (N : Nat) : Spec E := { ps := [.val (.slice 5 (.int .u8))], rs := [.str], own := true, dp := false, R := R, fn := fun x => m N x.1, res := fun r => (r, ()), out := fun r => ((), ()), shut := fun a b => a.1, res_shut := fun _ _ => rfl, out_shut := fun _ _ => rfl }
end spec_HashOf
/-! ### laws_at: loop.example/g00220/laws.at -/
namespace laws_at
abbrev R := Int
noncomputable def m (N : Nat) (a0 : List Int) (a1 : Int) (a2 : Int) : Option R :=
  bif (decide (a2 ≤ (1:Int))) then
    some (0:Int)
  else
  bif ((a0.length : Int) == (0:Int)) then
    bif (!decide (a2 = 0)) then
    some (Int.tmod (w64 (a1 * (7:Int))) a2)
    else none
  else
  bif (!decide ((a0.length : Int) = 0)) then
  bif (decide (0 ≤ (Int.tmod a1 (a0.length : Int)))) then
  bif (decide ((Int.tmod a1 (a0.length : Int)) < (a0.length : Int))) then
  bif (!decide ((a0.length : Int) = 0)) then
  bif (decide (0 ≤ (Int.tmod (w64 (a1 + (1:Int))) (a0.length : Int)))) then
  bif (decide ((Int.tmod (w64 (a1 + (1:Int))) (a0.length : Int)) < (a0.length : Int))) then
  (let w1 : Int := (w64 ((w64 ((w64 (a0.getD (Int.toNat (Int.tmod a1 (a0.length : Int))) (0:Int))) * (31:Int))) + (w64 (a0.getD (Int.toNat (Int.tmod (w64 (a1 + (1:Int))) (a0.length : Int))) (0:Int)))))
  bif (!decide ((a0.length : Int) = 0)) then
  bif (!decide (a2 = 0)) then
  some (Int.tmod (w64 (w1 + (w64 (Int.tdiv a1 (a0.length : Int))))) a2)
  else none
  else none)
  else none
  else none
  else none
  else none
  else none
  else none
@[reducible] noncomputable def sp (N : Nat) : Spec E := { ps := [.val (.slice 5 (.int .u8)), .val (.int .i64), .val (.int .i64)], rs := [(.int .i64)], own := true, dp := false, R := R, fn := fun x => m N x.1 x.2.1 x.2.2.1, res := fun r => (r, ()), out := fun r => ((), (), (), ()), shut := fun a b => a.1, res_shut := fun _ _ => rfl, out_shut := fun _ _ => rfl }
end laws_at
/-! ### impl_isHash_1: loop.example/g00220/impl.isHash$1 -/
namespace impl_isHash_1
abbrev R := Bool
noncomputable def m (N : Nat) (a0 : ByteArray) : Option R :=
  some ((a0.size : Int) != (32:Int))
@[reducible] noncomputable def sp (N : Nat) : Spec E := { ps := [.val .str], rs := [.bool], own := true, dp := false, R := R, fn := fun x => m N x.1, res := fun r => (r, ()), out := fun r => ((), ()), shut := fun a b => a.1, res_shut := fun _ _ => rfl, out_shut := fun _ _ => rfl }
end impl_isHash_1
/-! ### slices_IndexFunc_string_string__impl_isHash_1: slices.IndexFunc[[]string,string] -/
namespace slices_IndexFunc_string_string__impl_isHash_1
abbrev R := Int
noncomputable def step2 (N : Nat) (a0 : List ByteArray) (rec : (Int × Int) → Option R) : (Int × Int) → Option R
  | (v1, v2) =>
    bif (decide (v2 < v1)) then
      bif (decide (0 ≤ v2)) then
      bif (decide (v2 < (a0.length : Int))) then
      ob (impl_isHash_1.m N (a0.getD (Int.toNat v2) ByteArray.empty)) fun y1 =>
      bif y1 then
        some v2
      else
      rec (v1, (w64 (v2 + (1:Int))))
      else none
      else none
    else
    some (-1:Int)
noncomputable def lp2 (N : Nat) (a0 : List ByteArray) : (Int × Int) → Option R :=
  miter (fun rec => step2 N a0 rec) N
noncomputable def m (N : Nat) (a0 : List ByteArray) : Option R :=
  lp2 N a0 ((a0.length : Int), (0:Int))
@[reducible] noncomputable def sp (N : Nat) : Spec E := { ps := [.val (.slice 9 .str), .clo 94 []], rs := [(.int .i64)], own := true, dp := false, R := R, fn := fun x => m N x.1, res := fun r => (r, ()), out := fun r => ((), (), ()), shut := fun a b => a.1, res_shut := fun _ _ => rfl, out_shut := fun _ _ => rfl }
end slices_IndexFunc_string_string__impl_isHash_1
/-! ### slices_ContainsFunc_string_string__impl_isHash_1: slices.ContainsFunc[[]string,string] -/
namespace slices_ContainsFunc_string_string__impl_isHash_1
abbrev R := Bool
noncomputable def m (N : Nat) (a0 : List ByteArray) : Option R :=
  ob (slices_IndexFunc_string_string__impl_isHash_1.m N a0) fun y1 =>
  some (decide (y1 ≥ (0:Int)))
@[reducible] noncomputable def sp (N : Nat) : Spec E := { ps := [.val (.slice 9 .str), .clo 94 []], rs := [.bool], own := true, dp := false, R := R, fn := fun x => m N x.1, res := fun r => (r, ()), out := fun r => ((), (), ()), shut := fun a b => a.1, res_shut := fun _ _ => rfl, out_shut := fun _ _ => rfl }
end slices_ContainsFunc_string_string__impl_isHash_1
/-! ### impl_isHash: loop.example/g00220/impl.isHash -/
namespace impl_isHash
abbrev R := Bool
noncomputable def m (N : Nat) (a0 : List ByteArray) : Option R :=
  ob (slices_ContainsFunc_string_string__impl_isHash_1.m N a0) fun y1 =>
  some (!y1)
@[reducible] noncomputable def sp (N : Nat) : Spec E := { ps := [.val (.slice 9 .str)], rs := [.bool], own := true, dp := false, R := R, fn := fun x => m N x.1, res := fun r => (r, ()), out := fun r => ((), ()), shut := fun a b => a.1, res_shut := fun _ _ => rfl, out_shut := fun _ _ => rfl }
end impl_isHash
/-! ### impl_within: loop.example/g00220/impl.within -/
namespace impl_within
abbrev R := Bool
noncomputable def m (N : Nat) (a0 : Int) (a1 : Int) (a2 : Int) : Option R :=
  bif (decide (a0 ≥ a1)) then
    some (bif true then (decide (a0 ≤ a2)) else false)
  else
  some false
@[reducible] noncomputable def sp (N : Nat) : Spec E := { ps := [.val (.int .i64), .val (.int .i64), .val (.int .i64)], rs := [.bool], own := true, dp := false, R := R, fn := fun x => m N x.1 x.2.1 x.2.2.1, res := fun r => (r, ()), out := fun r => ((), (), (), ()), shut := fun a b => a.1, res_shut := fun _ _ => rfl, out_shut := fun _ _ => rfl }
end impl_within
/-! ### impl_seedCode: loop.example/g00220/impl.seedCode -/
namespace impl_seedCode
abbrev R := Int
noncomputable def m (N : Nat) (a0 : ByteArray) (a1 : Int) : Option R :=
  ob (impl_isText.m N ([a0])) fun y1 =>
  bif (!y1) then
    some (2:Int)
  else
  ob (impl_isHash.m N ([a0])) fun y2 =>
  bif (!y2) then
    some (1:Int)
  else
  ob (impl_within.m N a1 (0:Int) (3:Int)) fun y3 =>
  bif (!y3) then
    some (4:Int)
  else
  some (0:Int)
@[reducible] noncomputable def sp (N : Nat) : Spec E := { ps := [.val .str, .val (.int .i64)], rs := [(.int .i64)], own := true, dp := false, R := R, fn := fun x => m N x.1 x.2.1, res := fun r => (r, ()), out := fun r => ((), (), ()), shut := fun a b => a.1, res_shut := fun _ _ => rfl, out_shut := fun _ _ => rfl }
end impl_seedCode
end Mir.Y
