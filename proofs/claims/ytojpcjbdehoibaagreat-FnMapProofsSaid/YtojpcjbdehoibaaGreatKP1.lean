/- The models are what the functions do. -/
import Derived.Test.YtojpcjbdehoibaaGreatKM3
namespace Mir.Y
set_option linter.unusedVariables false
set_option maxRecDepth 10000
open Go Go.Proofs Mir
namespace spec_l00Source
noncomputable def code : Code := Tryz.f14.body.getD .skip
abbrev live : Live := []
noncomputable def G (N : Nat) : Ctx E := gam []
noncomputable def m0 (N : Nat) (a0 : List Int) : Option R :=
  bif (!decide ((1000:Int) = 0)) then
  some (l00Src.mk a0 (0:Int) (Int.tmod (a0.length : Int) (1000:Int)))
  else none
theorem run (N : Nat) (o0 : Orc E R) (a0 : List Int) : runF TD (G N) live [] Tryz.f14 code (sp N) o0 (a0, ()) = m0 N a0 := by kernel_rfl
theorem G_ok (N : Nat) : GamOK Tryz.prog (G N) := gam_ok (l := []) (trivial)
theorem snd (N : Nat) : Sound Tryz.prog E 14 (sp N) :=
  Mir.sound TD_OK (G_ok N) mixed Tryz.func14 (c := code) (by kernel_rfl) (by kernel_rfl) (sp N) (Nat.le_of_ble_eq_true (by kernel_rfl)) live [] (by
    rintro ⟨a0, _⟩ r h
    exact ⟨N, 2, ((run N _ a0).trans rfl).trans h⟩)
end spec_l00Source
namespace spec_l00Src_size_
noncomputable def code : Code := Tryz.f41.body.getD .skip
abbrev live : Live := []
noncomputable def G (N : Nat) : Ctx E := gam []
noncomputable def m0 (N : Nat) (a0 : l00Src) (a1 : Int) : Option R :=
  bif (!decide ((12:Int) = 0)) then
  (let w1 : Int := (if a1 < (w64 ((1:Int) + (w64 (Int.tdiv (a0.code.length : Int) (12:Int))))) then a1 else (w64 ((1:Int) + (w64 (Int.tdiv (a0.code.length : Int) (12:Int))))))
  some w1)
  else none
theorem run (N : Nat) (o0 : Orc E R) (a0 : l00Src) (a1 : Int) : runF T (G N) live [] Tryz.f41 code (sp N) o0 (a0, a1, ()) = m0 N a0 a1 := by kernel_rfl
theorem G_ok (N : Nat) : GamOK Tryz.prog (G N) := gam_ok (l := []) (trivial)
theorem snd (N : Nat) : Sound Tryz.prog E 41 (sp N) :=
  Mir.sound T_OK (G_ok N) mixed Tryz.func41 (c := code) (by kernel_rfl) (by kernel_rfl) (sp N) (Nat.le_of_ble_eq_true (by kernel_rfl)) live [] (by
    rintro ⟨a0, a1, _⟩ r h
    exact ⟨N, 2, ((run N _ a0 a1).trans rfl).trans h⟩)
end spec_l00Src_size_
namespace spec_l00Src_byte_
noncomputable def code : Code := Tryz.f75.body.getD .skip
abbrev live : Live := []
noncomputable def G (N : Nat) : Ctx E := gam []
noncomputable def m0 (N : Nat) (a0 : l00Src) : Option R :=
  bif (decide ((w64 (a0.«at» + (1:Int))) ≤ (a0.code.length : Int))) then
    bif (decide (0 ≤ (w64 ((w64 (a0.«at» + (1:Int))) - (1:Int))))) then
    bif (decide ((w64 ((w64 (a0.«at» + (1:Int))) - (1:Int))) < (a0.code.length : Int))) then
    bif (!decide ((2147483648:Int) = 0)) then
    (let w1 : Int := (Int.tmod (w64 ((w64 ((w64 (a0.seed * (31:Int))) + (w64 (a0.code.getD (Int.toNat (w64 ((w64 (a0.«at» + (1:Int))) - (1:Int)))) (0:Int))))) + (7:Int))) (2147483648:Int))
    bif (decide (0 ≤ (w64 ((w64 (a0.«at» + (1:Int))) - (1:Int))))) then
    bif (decide ((w64 ((w64 (a0.«at» + (1:Int))) - (1:Int))) < (a0.code.length : Int))) then
    some ((w64 (a0.code.getD (Int.toNat (w64 ((w64 (a0.«at» + (1:Int))) - (1:Int)))) (0:Int))), (l00Src.mk a0.code (w64 (a0.«at» + (1:Int))) w1))
    else none
    else none)
    else none
    else none
    else none
  else
  bif (decide ((w64 (a0.«at» + (1:Int))) > (3000:Int))) then
    some ((0:Int), (l00Src.mk a0.code (w64 (a0.«at» + (1:Int))) a0.seed))
  else
  bif (!decide ((2147483648:Int) = 0)) then
  bif (!decide ((65536:Int) = 0)) then
  bif (!decide ((256:Int) = 0)) then
  some ((Int.tmod (w64 (Int.tdiv (Int.tmod (w64 ((w64 (a0.seed * (1103515245:Int))) + (12345:Int))) (2147483648:Int)) (65536:Int))) (256:Int)), (l00Src.mk a0.code (w64 (a0.«at» + (1:Int))) (Int.tmod (w64 ((w64 (a0.seed * (1103515245:Int))) + (12345:Int))) (2147483648:Int))))
  else none
  else none
  else none
theorem run (N : Nat) (o0 : Orc E R) (a0 : l00Src) : runF TD (G N) live [] Tryz.f75 code (sp N) o0 (a0, ()) = m0 N a0 := by kernel_rfl
theorem G_ok (N : Nat) : GamOK Tryz.prog (G N) := gam_ok (l := []) (trivial)
theorem snd (N : Nat) : Sound Tryz.prog E 75 (sp N) :=
  Mir.sound TD_OK (G_ok N) mixed Tryz.func75 (c := code) (by kernel_rfl) (by kernel_rfl) (sp N) (Nat.le_of_ble_eq_true (by kernel_rfl)) live [] (by
    rintro ⟨a0, _⟩ r h
    exact ⟨N, 2, ((run N _ a0).trans rfl).trans h⟩)
end spec_l00Src_byte_
namespace spec_l00Src_next_
noncomputable def code : Code := Tryz.f40.body.getD .skip
abbrev live : Live := []
noncomputable def G (N : Nat) : Ctx E := gam [(75, [], spec_l00Src_byte_.sp N)]
noncomputable def m0 (N : Nat) (a0 : l00Src) (a1 : Int) : Option R :=
  bif (decide (a1 ≤ (1:Int))) then
    some ((0:Int), a0)
  else
  bif (decide (a1 ≤ (256:Int))) then
    ob (spec_l00Src_byte_.m N a0) fun y1 =>
    bif (!decide (a1 = 0)) then
    some ((Int.tmod y1.1 a1), y1.2)
    else none
  else
  ob (spec_l00Src_byte_.m N a0) fun y2 =>
  ob (spec_l00Src_byte_.m N y2.2) fun y3 =>
  ob (spec_l00Src_byte_.m N y3.2) fun y4 =>
  bif (!decide (a1 = 0)) then
  some ((Int.tmod (w64 ((w64 ((w64 (y2.1 * (65536:Int))) + (w64 (y3.1 * (256:Int))))) + y4.1)) a1), y4.2)
  else none
theorem run (N : Nat) (o0 : Orc E R) (a0 : l00Src) (a1 : Int) : runF TD (G N) live [] Tryz.f40 code (sp N) o0 (a0, a1, ()) = m0 N a0 a1 := by kernel_rfl
theorem G_ok (N : Nat) : GamOK Tryz.prog (G N) := gam_ok (l := [(75, [], spec_l00Src_byte_.sp N)]) (⟨spec_l00Src_byte_.snd N, trivial⟩)
theorem snd (N : Nat) : Sound Tryz.prog E 40 (sp N) :=
  Mir.sound TD_OK (G_ok N) mixed Tryz.func40 (c := code) (by kernel_rfl) (by kernel_rfl) (sp N) (Nat.le_of_ble_eq_true (by kernel_rfl)) live [] (by
    rintro ⟨a0, a1, _⟩ r h
    exact ⟨N, 2, ((run N _ a0 a1).trans rfl).trans h⟩)
end spec_l00Src_next_
namespace spec_l07Empty
noncomputable def code : Code := Tryz.f57.body.getD .skip
abbrev live : Live := []
noncomputable def G (N : Nat) : Ctx E := gam []
noncomputable def m0 (N : Nat) (a0 : Branch) : Option R :=
  bif (seq a0.Key ByteArray.empty) then
    bif (bif true then (seq a0.Value ByteArray.empty) else false) then
      bif (bif true then (a0.At == (0:Int)) else false) then
        some (bif true then ((a0.Kids.length : Int) == (0:Int)) else false)
      else
      some false
    else
    some false
  else
  some false
theorem run (N : Nat) (o0 : Orc E R) (a0 : Branch) : runF T (G N) live [] Tryz.f57 code (sp N) o0 (a0, ()) = m0 N a0 := by kernel_rfl
theorem G_ok (N : Nat) : GamOK Tryz.prog (G N) := gam_ok (l := []) (trivial)
theorem snd (N : Nat) : Sound Tryz.prog E 57 (sp N) :=
  Mir.sound T_OK (G_ok N) mixed Tryz.func57 (c := code) (by kernel_rfl) (by kernel_rfl) (sp N) (Nat.le_of_ble_eq_true (by kernel_rfl)) live [] (by
    rintro ⟨a0, _⟩ r h
    exact ⟨N, 2, ((run N _ a0).trans rfl).trans h⟩)
end spec_l07Empty
namespace spec_l07Leaf
noncomputable def code : Code := Tryz.f59.body.getD .skip
abbrev live : Live := []
noncomputable def G (N : Nat) : Ctx E := gam []
noncomputable def m0 (N : Nat) (a0 : Branch) : Option R :=
  some ((a0.Kids.length : Int) == (0:Int))
theorem run (N : Nat) (o0 : Orc E R) (a0 : Branch) : runF T (G N) live [] Tryz.f59 code (sp N) o0 (a0, ()) = m0 N a0 := by kernel_rfl
theorem G_ok (N : Nat) : GamOK Tryz.prog (G N) := gam_ok (l := []) (trivial)
theorem snd (N : Nat) : Sound Tryz.prog E 59 (sp N) :=
  Mir.sound T_OK (G_ok N) mixed Tryz.func59 (c := code) (by kernel_rfl) (by kernel_rfl) (sp N) (Nat.le_of_ble_eq_true (by kernel_rfl)) live [] (by
    rintro ⟨a0, _⟩ r h
    exact ⟨N, 2, ((run N _ a0).trans rfl).trans h⟩)
end spec_l07Leaf
namespace spec_l07Size
noncomputable def code : Code := Tryz.f42.body.getD .skip
abbrev live : Live := []
noncomputable def G (N : Nat) (slf : Branch → Option R) : Ctx E := gam [(57, [], spec_l07Empty.sp N), (59, [], spec_l07Leaf.sp N), (42, [], spf slf)]
noncomputable def m0 (N : Nat) (slf : Branch → Option R) (a0 : Branch) : Option R :=
  ob (spec_l07Empty.m N (Branch.mk a0.Key a0.Value a0.At a0.Kids)) fun y1 =>
  bif y1 then
    some (0:Int)
  else
  ob (spec_l07Leaf.m N (Branch.mk a0.Key a0.Value a0.At a0.Kids)) fun y2 =>
  bif y2 then
    some (1:Int)
  else
  bif (decide (0 ≤ (0:Int))) then
  bif (decide ((0:Int) < (a0.Kids.length : Int))) then
  ob (slf (Branch.mk ((a0.Kids.getD 0 Branch.dz).Key) ((a0.Kids.getD 0 Branch.dz).Value) ((a0.Kids.getD 0 Branch.dz).At) ((a0.Kids.getD 0 Branch.dz).Kids))) fun y3 =>
  bif (decide (0 ≤ (1:Int))) then
  bif (decide ((1:Int) < (a0.Kids.length : Int))) then
  ob (slf (Branch.mk ((a0.Kids.getD 1 Branch.dz).Key) ((a0.Kids.getD 1 Branch.dz).Value) ((a0.Kids.getD 1 Branch.dz).At) ((a0.Kids.getD 1 Branch.dz).Kids))) fun y4 =>
  some (w64 (y3 + y4))
  else none
  else none
  else none
  else none
theorem run (N : Nat) (o0 : Orc E R) (slf : Branch → Option R) (a0 : Branch) : runF T (G N slf) live [] Tryz.f42 code (spf (mb N slf)) o0 (a0, ()) = m0 N slf a0 := by kernel_rfl
theorem G_ok (N : Nat) (slf : Branch → Option R) (hs : Sound Tryz.prog E 42 (spf slf)) : GamOK Tryz.prog (G N slf) := gam_ok (l := [(57, [], spec_l07Empty.sp N), (59, [], spec_l07Leaf.sp N), (42, [], spf slf)]) (⟨spec_l07Empty.snd N, spec_l07Leaf.snd N, hs, trivial⟩)
theorem sndF (N : Nat) : ∀ n, Sound Tryz.prog E 42 (spf (mF N n))
  | 0 => sound_none Tryz.func42 (c := code) (by kernel_rfl) (by kernel_rfl) (spf (mF N 0)) (fun _ => rfl)
  | n + 1 => by
    have hr := fun (a0 : Branch) => (run N (orc T (G N (mF N n)) live [] N 2) (mF N n) a0).trans rfl
    exact Mir.sound T_OK (G_ok N (mF N n) (sndF N n)) mixed Tryz.func42 (c := code) (by kernel_rfl) (by kernel_rfl) (spf (mF N (n + 1))) (Nat.le_of_ble_eq_true (by kernel_rfl)) live [] (by
      rintro ⟨a0, _⟩ r h
      exact ⟨N, 2, (hr a0).trans h⟩)
theorem snd (N : Nat) : Sound Tryz.prog E 42 (sp N) := sndF N N
end spec_l07Size
namespace spec_l00Src_pick_
noncomputable def code : Code := Tryz.f48.body.getD .skip
abbrev live : Live := []
noncomputable def G (N : Nat) : Ctx E := gam [(40, [], spec_l00Src_next_.sp N)]
noncomputable def m0 (N : Nat) (a0 : l00Src) (a1 : List ByteArray) : Option R :=
  bif ((a1.length : Int) == (0:Int)) then
    some (ByteArray.empty, a0)
  else
  ob (spec_l00Src_next_.m N a0 (a1.length : Int)) fun y1 =>
  bif (decide (0 ≤ y1.1)) then
  bif (decide (y1.1 < (a1.length : Int))) then
  some ((a1.getD (Int.toNat y1.1) ByteArray.empty), y1.2)
  else none
  else none
theorem run (N : Nat) (o0 : Orc E R) (a0 : l00Src) (a1 : List ByteArray) : runF TD (G N) live [] Tryz.f48 code (sp N) o0 (a0, a1, ()) = m0 N a0 a1 := by kernel_rfl
theorem G_ok (N : Nat) : GamOK Tryz.prog (G N) := gam_ok (l := [(40, [], spec_l00Src_next_.sp N)]) (⟨spec_l00Src_next_.snd N, trivial⟩)
theorem snd (N : Nat) : Sound Tryz.prog E 48 (sp N) :=
  Mir.sound TD_OK (G_ok N) mixed Tryz.func48 (c := code) (by kernel_rfl) (by kernel_rfl) (sp N) (Nat.le_of_ble_eq_true (by kernel_rfl)) live [] (by
    rintro ⟨a0, a1, _⟩ r h
    exact ⟨N, 2, ((run N _ a0 a1).trans rfl).trans h⟩)
end spec_l00Src_pick_
namespace spec_l00Src_mapKey
noncomputable def code : Code := Tryz.f16.body.getD .skip
abbrev live : Live := []
noncomputable def G (N : Nat) : Ctx E := gam [(48, [], spec_l00Src_pick_.sp N)]
noncomputable def m0 (N : Nat) (a0 : l00Src) : Option R :=
  (let w1 : List ByteArray := [(⟨#[97]⟩ : ByteArray), (⟨#[98]⟩ : ByteArray), (⟨#[99]⟩ : ByteArray), (⟨#[100]⟩ : ByteArray), (⟨#[101]⟩ : ByteArray), (⟨#[102]⟩ : ByteArray), (⟨#[97, 108, 112, 104, 97]⟩ : ByteArray), (⟨#[98, 101, 116, 97]⟩ : ByteArray)]
  ob (spec_l00Src_pick_.m N a0 w1) fun y2 =>
  ob (spec_l00Src_pick_.m N y2.2 ([ByteArray.empty, ByteArray.empty, (⟨#[49]⟩ : ByteArray), (⟨#[50]⟩ : ByteArray)])) fun y3 =>
  bif (decide (y2.1.size + y3.1.size ≤ 9223372036854775807)) then
  some ((y2.1 ++ y3.1), y3.2)
  else none)
theorem run (N : Nat) (o0 : Orc E R) (a0 : l00Src) : runF TD (G N) live [] Tryz.f16 code (sp N) o0 (a0, ()) = m0 N a0 := by kernel_rfl
theorem G_ok (N : Nat) : GamOK Tryz.prog (G N) := gam_ok (l := [(48, [], spec_l00Src_pick_.sp N)]) (⟨spec_l00Src_pick_.snd N, trivial⟩)
theorem snd (N : Nat) : Sound Tryz.prog E 16 (sp N) :=
  Mir.sound TD_OK (G_ok N) mixed Tryz.func16 (c := code) (by kernel_rfl) (by kernel_rfl) (sp N) (Nat.le_of_ble_eq_true (by kernel_rfl)) live [] (by
    rintro ⟨a0, _⟩ r h
    exact ⟨N, 2, ((run N _ a0).trans rfl).trans h⟩)
end spec_l00Src_mapKey
namespace spec_l00Src_datum
noncomputable def code : Code := Tryz.f44.body.getD .skip
abbrev live : Live := []
noncomputable def G (N : Nat) : Ctx E := gam [(48, [], spec_l00Src_pick_.sp N)]
noncomputable def m0 (N : Nat) (a0 : l00Src) : Option R :=
  (let w1 : List ByteArray := [ByteArray.empty, (⟨#[49]⟩ : ByteArray), (⟨#[50]⟩ : ByteArray), (⟨#[120]⟩ : ByteArray), (⟨#[108, 111, 110, 103, 101, 114, 32, 118, 97, 108, 117, 101]⟩ : ByteArray)]
  ob (spec_l00Src_pick_.m N a0 w1) fun y2 =>
  some (y2.1, y2.2))
theorem run (N : Nat) (o0 : Orc E R) (a0 : l00Src) : runF TD (G N) live [] Tryz.f44 code (sp N) o0 (a0, ()) = m0 N a0 := by kernel_rfl
theorem G_ok (N : Nat) : GamOK Tryz.prog (G N) := gam_ok (l := [(48, [], spec_l00Src_pick_.sp N)]) (⟨spec_l00Src_pick_.snd N, trivial⟩)
theorem snd (N : Nat) : Sound Tryz.prog E 44 (sp N) :=
  Mir.sound TD_OK (G_ok N) mixed Tryz.func44 (c := code) (by kernel_rfl) (by kernel_rfl) (sp N) (Nat.le_of_ble_eq_true (by kernel_rfl)) live [] (by
    rintro ⟨a0, _⟩ r h
    exact ⟨N, 2, ((run N _ a0).trans rfl).trans h⟩)
end spec_l00Src_datum
namespace spec_l07New
noncomputable def code : Code := Tryz.f76.body.getD .skip
abbrev live : Live := []
noncomputable def G (N : Nat) : Ctx E := gam []
noncomputable def m0 (N : Nat) (a0 : ByteArray) (a1 : ByteArray) : Option R :=
  some (Branch.mk a0 a1 (256:Int) ([] : List Branch))
theorem run (N : Nat) (o0 : Orc E R) (a0 : ByteArray) (a1 : ByteArray) : runF TD (G N) live [] Tryz.f76 code (sp N) o0 (a0, a1, ()) = m0 N a0 a1 := by kernel_rfl
theorem G_ok (N : Nat) : GamOK Tryz.prog (G N) := gam_ok (l := []) (trivial)
theorem snd (N : Nat) : Sound Tryz.prog E 76 (sp N) :=
  Mir.sound TD_OK (G_ok N) mixed Tryz.func76 (c := code) (by kernel_rfl) (by kernel_rfl) (sp N) (Nat.le_of_ble_eq_true (by kernel_rfl)) live [] (by
    rintro ⟨a0, a1, _⟩ r h
    exact ⟨N, 2, ((run N _ a0 a1).trans rfl).trans h⟩)
end spec_l07New
namespace spec_l01Consts
noncomputable def code : Code := Tryz.f72.body.getD .skip
abbrev live : Live := []
noncomputable def G (N : Nat) : Ctx E := gam []
noncomputable def m0 (N : Nat) : Option R :=
  (let w1 : List Int := [(1116352408:Int), (1899447441:Int), (3049323471:Int), (3921009573:Int), (961987163:Int), (1508970993:Int), (2453635748:Int), (2870763221:Int), (3624381080:Int), (310598401:Int), (607225278:Int), (1426881987:Int), (1925078388:Int), (2162078206:Int), (2614888103:Int), (3248222580:Int), (3835390401:Int), (4022224774:Int), (264347078:Int), (604807628:Int), (770255983:Int), (1249150122:Int), (1555081692:Int), (1996064986:Int), (2554220882:Int), (2821834349:Int), (2952996808:Int), (3210313671:Int), (3336571891:Int), (3584528711:Int), (113926993:Int), (338241895:Int), (666307205:Int), (773529912:Int), (1294757372:Int), (1396182291:Int), (1695183700:Int), (1986661051:Int), (2177026350:Int), (2456956037:Int), (2730485921:Int), (2820302411:Int), (3259730800:Int), (3345764771:Int), (3516065817:Int), (3600352804:Int), (4094571909:Int), (275423344:Int), (430227734:Int), (506948616:Int), (659060556:Int), (883997877:Int), (958139571:Int), (1322822218:Int), (1537002063:Int), (1747873779:Int), (1955562222:Int), (2024104815:Int), (2227730452:Int), (2361852424:Int), (2428436474:Int), (2756734187:Int), (3204031479:Int), (3329325298:Int)]
  some w1)
theorem run (N : Nat) (o0 : Orc E R) : runF T (G N) live [] Tryz.f72 code (sp N) o0 () = m0 N := by kernel_rfl
theorem G_ok (N : Nat) : GamOK Tryz.prog (G N) := gam_ok (l := []) (trivial)
theorem snd (N : Nat) : Sound Tryz.prog E 72 (sp N) :=
  Mir.sound T_OK (G_ok N) mixed Tryz.func72 (c := code) (by kernel_rfl) (by kernel_rfl) (sp N) (Nat.le_of_ble_eq_true (by kernel_rfl)) live [] (by
    rintro _ r h
    exact ⟨N, 2, ((run N _).trans rfl).trans h⟩)
end spec_l01Consts
namespace spec_l01Turn
noncomputable def code : Code := Tryz.f96.body.getD .skip
abbrev live : Live := []
noncomputable def G (N : Nat) : Ctx E := gam []
noncomputable def m0 (N : Nat) (a0 : Int) (a1 : Int) : Option R :=
  bif (!decide (a1 < 0)) then
  bif (!decide ((wu64 ((32:Int) - a1)) < 0)) then
  some (ibit .or .u32 (Int.fdiv a0 (2 ^ (min (Int.toNat a1) 32))) (wu32 (a0 * 2 ^ (min (Int.toNat (wu64 ((32:Int) - a1))) 32))))
  else none
  else none
theorem run (N : Nat) (o0 : Orc E R) (a0 : Int) (a1 : Int) : runF T (G N) live [] Tryz.f96 code (sp N) o0 (a0, a1, ()) = m0 N a0 a1 := by kernel_rfl
theorem G_ok (N : Nat) : GamOK Tryz.prog (G N) := gam_ok (l := []) (trivial)
theorem snd (N : Nat) : Sound Tryz.prog E 96 (sp N) :=
  Mir.sound T_OK (G_ok N) mixed Tryz.func96 (c := code) (by kernel_rfl) (by kernel_rfl) (sp N) (Nat.le_of_ble_eq_true (by kernel_rfl)) live [] (by
    rintro ⟨a0, a1, _⟩ r h
    exact ⟨N, 2, ((run N _ a0 a1).trans rfl).trans h⟩)
end spec_l01Turn
namespace spec_l01Block
noncomputable def code : Code := Tryz.f73.body.getD .skip
abbrev live : Live := [(21, [0, 11, 17]), (13, [0, 2, 6, 11, 12]), (6, [0, 2, 6, 8]), (2, [0, 1, 2, 6, 7])]
noncomputable def G (N : Nat) : Ctx E := gam [(96, [], spec_l01Turn.sp N)]
noncomputable def loop2 : Code := codeAt code [1, 0, 1, 0]
noncomputable def body2 : Code := codeAt loop2 [0]
noncomputable def loop6 : Code := codeAt code [1, 1, 0, 1, 0]
noncomputable def body6 : Code := codeAt loop6 [0]
noncomputable def loop13 : Code := codeAt code [1, 1, 1, 1, 0, 1, 0]
noncomputable def body13 : Code := codeAt loop13 [0]
noncomputable def loop21 : Code := codeAt code [1, 1, 1, 1, 1, 1, 0]
noncomputable def body21 : Code := codeAt loop21 [0]
noncomputable def K2 (N : Nat) (o0 : Orc E R) : KT E R := kAt T (G N) live [] o0 code [1, 0, 1, 0] (kfin T Tryz.f73 (sp N))
noncomputable def St2 (a0 : List Int) (a1 : List Int) (a2 : List Int) : (Int × (List Int)) → St E
  | (v2, v4) => { ρ := [(0, .c (.at (.own 0))), (1, .c (.at (.ro 5 (.int .u8) a1))), (2, .c (.at (.ro 79 (.int .u32) a2))), (6, .c (.at (.own 1))), (7, .c (.at (.int .i64 v2)))], H := [(0, .row 79 (.int .u32) a0 false), (1, .row 79 (.int .u32) v4 false)], nx := 2, n := 222, pin := [0] }
noncomputable def K6 (N : Nat) (o0 : Orc E R) : KT E R := kAt T (G N) live [] o0 code [1, 1, 0, 1, 0] (kfin T Tryz.f73 (sp N))
noncomputable def St6 (a0 : List Int) (a1 : List Int) (a2 : List Int) : (Int × (List Int)) → St E
  | (v1, v3) => { ρ := [(0, .c (.at (.own 0))), (2, .c (.at (.ro 79 (.int .u32) a2))), (6, .c (.at (.own 1))), (8, .c (.at (.int .i64 v1)))], H := [(0, .row 79 (.int .u32) a0 false), (1, .row 79 (.int .u32) v3 false)], nx := 2, n := 222, pin := [0] }
noncomputable def K13 (N : Nat) (o0 : Orc E R) : KT E R := kAt T (G N) live [] o0 code [1, 1, 1, 1, 0, 1, 0] (kfin T Tryz.f73 (sp N))
noncomputable def St13 (a0 : List Int) (a1 : List Int) (a2 : List Int) : (Int × (List Int) × (List Int)) → St E
  | (v1, v3, v4) => { ρ := [(0, .c (.at (.own 0))), (2, .c (.at (.ro 79 (.int .u32) a2))), (6, .c (.at (.own 1))), (11, .c (.at (.own 2))), (12, .c (.at (.int .i64 v1)))], H := [(0, .row 79 (.int .u32) a0 false), (1, .row 79 (.int .u32) v3 false), (2, .row 79 (.int .u32) v4 false)], nx := 3, n := 222, pin := [0] }
noncomputable def K21 (N : Nat) (o0 : Orc E R) : KT E R := kAt T (G N) live [] o0 code [1, 1, 1, 1, 1, 1, 0] (kfin T Tryz.f73 (sp N))
noncomputable def St21 (a0 : List Int) (a1 : List Int) (a2 : List Int) : (Int × (List Int) × (List Int)) → St E
  | (v0, v1, v2) => { ρ := [(0, .c (.at (.own 0))), (11, .c (.at (.own 1))), (17, .c (.at (.int .i64 v0)))], H := [(0, .row 79 (.int .u32) v1 false), (1, .row 79 (.int .u32) v2 false)], nx := 2, n := 222, pin := [0] }
noncomputable def m0 (N : Nat) (a0 : List Int) (a1 : List Int) (a2 : List Int) (lp2 : Int × (List Int) → Option R) : Option R :=
  bif (decide (0 ≤ (64:Int))) then
  bif (room 64 4) then
  lp2 ((0:Int), (List.replicate 64 (0:Int)))
  else none
  else none
theorem run (N : Nat) (o0 : Orc E R) (a0 : List Int) (a1 : List Int) (a2 : List Int) : runF T (G N) live [] Tryz.f73 code (sp N) o0 (a0, a1, a2, ()) = m0 N a0 a1 a2 (fun a => o0 loop2 (K2 N o0) (St2 a0 a1 a2 a)) := by kernel_rfl
theorem body2_0 (N : Nat) (o0 : Orc E R) (o1 : Orc E R) (q1 : St E → Option R) (a0 : List Int) (a1 : List Int) (a2 : List Int) (v2 : Int) (v4 : List Int) : runA T (G N) live [] o1 body2 (St2 a0 a1 a2 (v2, v4)) (kloop [0, 1, 2, 6, 7] q1 (K2 N o0)) = step2 N a0 a1 a2 (fun a => o0 loop6 (K6 N o0) (St6 a0 a1 a2 a)) (fun a => q1 (St2 a0 a1 a2 a)) (v2, v4) := by kernel_rfl
theorem body6_0 (N : Nat) (o0 : Orc E R) (o1 : Orc E R) (q1 : St E → Option R) (a0 : List Int) (a1 : List Int) (a2 : List Int) (v1 : Int) (v3 : List Int) : runA T (G N) live [] o1 body6 (St6 a0 a1 a2 (v1, v3)) (kloop [0, 2, 6, 8] q1 (K6 N o0)) = step6 N a0 a1 a2 (fun a => o0 loop13 (K13 N o0) (St13 a0 a1 a2 a)) (fun a => q1 (St6 a0 a1 a2 a)) (v1, v3) := by kernel_rfl
theorem body13_0 (N : Nat) (o0 : Orc E R) (o1 : Orc E R) (q1 : St E → Option R) (a0 : List Int) (a1 : List Int) (a2 : List Int) (v1 : Int) (v3 : List Int) (v4 : List Int) : runA T (G N) live [] o1 body13 (St13 a0 a1 a2 (v1, v3, v4)) (kloop [0, 2, 6, 11, 12] q1 (K13 N o0)) = step13 N a0 a1 a2 (fun a => o0 loop21 (K21 N o0) (St21 a0 a1 a2 a)) (fun a => q1 (St13 a0 a1 a2 a)) (v1, v3, v4) := by kernel_rfl
theorem body21_0 (N : Nat) (o0 : Orc E R) (o1 : Orc E R) (q1 : St E → Option R) (a0 : List Int) (a1 : List Int) (a2 : List Int) (v0 : Int) (v1 : List Int) (v2 : List Int) : runA T (G N) live [] o1 body21 (St21 a0 a1 a2 (v0, v1, v2)) (kloop [0, 11, 17] q1 (K21 N o0)) = step21 N a0 a1 a2 (fun a => q1 (St21 a0 a1 a2 a)) (v0, v1, v2) := by kernel_rfl
theorem lp21_eq (N : Nat) (a0 : List Int) (a1 : List Int) (a2 : List Int) (a : Int × (List Int) × (List Int)) : (orc T (G N) live [] N 2) loop21 (K21 N (orc T (G N) live [] N 2)) (St21 a0 a1 a2 a) = lp21 N a0 a1 a2 a :=
  (orc_loop (b := body21) (live := [0, 11, 17]) (by kernel_rfl)).trans (iter_eq (St21 a0 a1 a2) _ _ (fun q1 a => by
    have hc := congrFun (congrFun (rfl : (step21 N a0 a1 a2) = (step21 N a0 a1 a2)) (fun a => q1 (St21 a0 a1 a2 a))) a
    obtain ⟨u0, u1, u2⟩ := a
    exact (body21_0 N (orc T (G N) live [] N 2) (orc T (G N) live [] N 1) q1 a0 a1 a2 u0 u1 u2).trans hc) N a)
theorem lp13_eq (N : Nat) (a0 : List Int) (a1 : List Int) (a2 : List Int) (a : Int × (List Int) × (List Int)) : (orc T (G N) live [] N 2) loop13 (K13 N (orc T (G N) live [] N 2)) (St13 a0 a1 a2 a) = lp13 N a0 a1 a2 a :=
  (orc_loop (b := body13) (live := [0, 2, 6, 11, 12]) (by kernel_rfl)).trans (iter_eq (St13 a0 a1 a2) _ _ (fun q1 a => by
    have hc := congrFun (congrFun (congrArg (step13 N a0 a1 a2) (funext fun a => lp21_eq N a0 a1 a2 a)) (fun a => q1 (St13 a0 a1 a2 a))) a
    obtain ⟨u0, u1, u2⟩ := a
    exact (body13_0 N (orc T (G N) live [] N 2) (orc T (G N) live [] N 1) q1 a0 a1 a2 u0 u1 u2).trans hc) N a)
theorem lp6_eq (N : Nat) (a0 : List Int) (a1 : List Int) (a2 : List Int) (a : Int × (List Int)) : (orc T (G N) live [] N 2) loop6 (K6 N (orc T (G N) live [] N 2)) (St6 a0 a1 a2 a) = lp6 N a0 a1 a2 a :=
  (orc_loop (b := body6) (live := [0, 2, 6, 8]) (by kernel_rfl)).trans (iter_eq (St6 a0 a1 a2) _ _ (fun q1 a => by
    have hc := congrFun (congrFun (congrArg (step6 N a0 a1 a2) (funext fun a => lp13_eq N a0 a1 a2 a)) (fun a => q1 (St6 a0 a1 a2 a))) a
    obtain ⟨u0, u1⟩ := a
    exact (body6_0 N (orc T (G N) live [] N 2) (orc T (G N) live [] N 1) q1 a0 a1 a2 u0 u1).trans hc) N a)
theorem lp2_eq (N : Nat) (a0 : List Int) (a1 : List Int) (a2 : List Int) (a : Int × (List Int)) : (orc T (G N) live [] N 2) loop2 (K2 N (orc T (G N) live [] N 2)) (St2 a0 a1 a2 a) = lp2 N a0 a1 a2 a :=
  (orc_loop (b := body2) (live := [0, 1, 2, 6, 7]) (by kernel_rfl)).trans (iter_eq (St2 a0 a1 a2) _ _ (fun q1 a => by
    have hc := congrFun (congrFun (congrArg (step2 N a0 a1 a2) (funext fun a => lp6_eq N a0 a1 a2 a)) (fun a => q1 (St2 a0 a1 a2 a))) a
    obtain ⟨u0, u1⟩ := a
    exact (body2_0 N (orc T (G N) live [] N 2) (orc T (G N) live [] N 1) q1 a0 a1 a2 u0 u1).trans hc) N a)
theorem G_ok (N : Nat) : GamOK Tryz.prog (G N) := gam_ok (l := [(96, [], spec_l01Turn.sp N)]) (⟨spec_l01Turn.snd N, trivial⟩)
theorem snd (N : Nat) : Sound Tryz.prog E 73 (sp N) :=
  Mir.sound T_OK (G_ok N) mixed Tryz.func73 (c := code) (by kernel_rfl) (by kernel_rfl) (sp N) (Nat.le_of_ble_eq_true (by kernel_rfl)) live [] (by
    rintro ⟨a0, a1, a2, _⟩ r h
    exact ⟨N, 2, ((run N _ a0 a1 a2).trans (congrArg (m0 N a0 a1 a2) (funext fun a => lp2_eq N a0 a1 a2 a))).trans h⟩)
end spec_l01Block
namespace spec_l01Hash
noncomputable def code : Code := Tryz.f35.body.getD .skip
abbrev live : Live := [(16, [3, 8, 9]), (11, [3, 4, 6, 7]), (6, [0, 3, 4, 5]), (3, [0, 3, 4])]
noncomputable def G (N : Nat) : Ctx E := gam [(72, [], spec_l01Consts.sp N), (73, [], spec_l01Block.sp N)]
noncomputable def loop3 : Code := codeAt code [1, 1, 1, 0, 0]
noncomputable def body3 : Code := codeAt loop3 [0]
noncomputable def loop6 : Code := codeAt code [1, 1, 1, 1, 0, 1, 0]
noncomputable def body6 : Code := codeAt loop6 [0]
noncomputable def loop11 : Code := codeAt code [1, 1, 1, 1, 1, 1, 0, 1, 0]
noncomputable def body11 : Code := codeAt loop11 [0]
noncomputable def loop16 : Code := codeAt code [1, 1, 1, 1, 1, 1, 1, 1, 0, 1, 0]
noncomputable def body16 : Code := codeAt loop16 [0]
noncomputable def K3 (N : Nat) (o0 : Orc E R) : KT E R := kAt T (G N) live [] o0 code [1, 1, 1, 0, 0] (kfin T Tryz.f35 (sp N))
noncomputable def St3 (a0 : List Int) : ((List Int) × (List Int)) → St E
  | (v1, v2) => { ρ := [(0, .c (.at (.ro 5 (.int .u8) a0))), (3, .c (.at (.own 0))), (4, .c (.at (.own 1)))], H := [(0, .row 79 (.int .u32) v1 false), (1, .row 5 (.int .u8) v2 false)], nx := 2, n := 86, pin := [] }
noncomputable def K6 (N : Nat) (o0 : Orc E R) : KT E R := kAt T (G N) live [] o0 code [1, 1, 1, 1, 0, 1, 0] (kfin T Tryz.f35 (sp N))
noncomputable def St6 (a0 : List Int) : (Int × (List Int) × (List Int)) → St E
  | (v1, v2, v3) => { ρ := [(0, .c (.at (.ro 5 (.int .u8) a0))), (3, .c (.at (.own 0))), (4, .c (.at (.own 1))), (5, .c (.at (.int .i64 v1)))], H := [(0, .row 79 (.int .u32) v2 false), (1, .row 5 (.int .u8) v3 false)], nx := 2, n := 86, pin := [] }
noncomputable def K11 (N : Nat) (o0 : Orc E R) : KT E R := kAt T (G N) live [] o0 code [1, 1, 1, 1, 1, 1, 0, 1, 0] (kfin T Tryz.f35 (sp N))
noncomputable def St11 (a0 : List Int) : (Int × (List Int) × (List Int) × (List Int)) → St E
  | (v0, v1, v2, v3) => { ρ := [(3, .c (.at (.own 0))), (4, .c (.at (.own 1))), (6, .c (.at (.own 2))), (7, .c (.at (.int .i64 v0)))], H := [(0, .row 79 (.int .u32) v1 false), (1, .row 5 (.int .u8) v2 false), (2, .row 79 (.int .u32) v3 false)], nx := 3, n := 86, pin := [] }
noncomputable def K16 (N : Nat) (o0 : Orc E R) : KT E R := kAt T (G N) live [] o0 code [1, 1, 1, 1, 1, 1, 1, 1, 0, 1, 0] (kfin T Tryz.f35 (sp N))
noncomputable def St16 (a0 : List Int) : (Int × (List Int) × (List Int)) → St E
  | (v0, v1, v2) => { ρ := [(3, .c (.at (.own 0))), (8, .c (.at (.own 1))), (9, .c (.at (.int .i64 v0)))], H := [(0, .row 79 (.int .u32) v1 false), (1, .row 5 (.int .u8) v2 false)], nx := 2, n := 86, pin := [] }
noncomputable def m0 (N : Nat) (a0 : List Int) (lp3 : (List Int) × (List Int) → Option R) : Option R :=
  (let w1 : List Int := [(1779033703:Int), (3144134277:Int), (1013904242:Int), (2773480762:Int), (1359893119:Int), (2600822924:Int), (528734635:Int), (1541459225:Int)]
  bif (room (([] : List Int).length + a0.length) 1) then
  bif (room ((([] : List Int) ++ a0).length + ([(128:Int)]).length) 1) then
  lp3 (w1, ((([] : List Int) ++ a0) ++ [(128:Int)]))
  else none
  else none)
theorem run (N : Nat) (o0 : Orc E R) (a0 : List Int) : runF T (G N) live [] Tryz.f35 code (sp N) o0 (a0, ()) = m0 N a0 (fun a => o0 loop3 (K3 N o0) (St3 a0 a)) := by kernel_rfl
theorem body3_0 (N : Nat) (o0 : Orc E R) (o1 : Orc E R) (q1 : St E → Option R) (a0 : List Int) (v1 : List Int) (v2 : List Int) : runA T (G N) live [] o1 body3 (St3 a0 (v1, v2)) (kloop [0, 3, 4] q1 (K3 N o0)) = step3 N a0 (fun a => o0 loop6 (K6 N o0) (St6 a0 a)) (fun a => q1 (St3 a0 a)) (v1, v2) := by kernel_rfl
theorem body6_0 (N : Nat) (o0 : Orc E R) (o1 : Orc E R) (q1 : St E → Option R) (a0 : List Int) (v1 : Int) (v2 : List Int) (v3 : List Int) : runA T (G N) live [] o1 body6 (St6 a0 (v1, v2, v3)) (kloop [0, 3, 4, 5] q1 (K6 N o0)) = step6 N a0 (fun a => o0 loop11 (K11 N o0) (St11 a0 a)) (fun a => q1 (St6 a0 a)) (v1, v2, v3) := by kernel_rfl
theorem body11_0 (N : Nat) (o0 : Orc E R) (o1 : Orc E R) (q1 : St E → Option R) (a0 : List Int) (v0 : Int) (v1 : List Int) (v2 : List Int) (v3 : List Int) : runA T (G N) live [] o1 body11 (St11 a0 (v0, v1, v2, v3)) (kloop [3, 4, 6, 7] q1 (K11 N o0)) = step11 N a0 (fun a => o0 loop16 (K16 N o0) (St16 a0 a)) (fun a => q1 (St11 a0 a)) (v0, v1, v2, v3) := by kernel_rfl
theorem body16_0 (N : Nat) (o0 : Orc E R) (o1 : Orc E R) (q1 : St E → Option R) (a0 : List Int) (v0 : Int) (v1 : List Int) (v2 : List Int) : runA T (G N) live [] o1 body16 (St16 a0 (v0, v1, v2)) (kloop [3, 8, 9] q1 (K16 N o0)) = step16 N a0 (fun a => q1 (St16 a0 a)) (v0, v1, v2) := by kernel_rfl
theorem lp16_eq (N : Nat) (a0 : List Int) (a : Int × (List Int) × (List Int)) : (orc T (G N) live [] N 2) loop16 (K16 N (orc T (G N) live [] N 2)) (St16 a0 a) = lp16 N a0 a :=
  (orc_loop (b := body16) (live := [3, 8, 9]) (by kernel_rfl)).trans (iter_eq (St16 a0) _ _ (fun q1 a => by
    have hc := congrFun (congrFun (rfl : (step16 N a0) = (step16 N a0)) (fun a => q1 (St16 a0 a))) a
    obtain ⟨u0, u1, u2⟩ := a
    exact (body16_0 N (orc T (G N) live [] N 2) (orc T (G N) live [] N 1) q1 a0 u0 u1 u2).trans hc) N a)
theorem lp11_eq (N : Nat) (a0 : List Int) (a : Int × (List Int) × (List Int) × (List Int)) : (orc T (G N) live [] N 2) loop11 (K11 N (orc T (G N) live [] N 2)) (St11 a0 a) = lp11 N a0 a :=
  (orc_loop (b := body11) (live := [3, 4, 6, 7]) (by kernel_rfl)).trans (iter_eq (St11 a0) _ _ (fun q1 a => by
    have hc := congrFun (congrFun (congrArg (step11 N a0) (funext fun a => lp16_eq N a0 a)) (fun a => q1 (St11 a0 a))) a
    obtain ⟨u0, u1, u2, u3⟩ := a
    exact (body11_0 N (orc T (G N) live [] N 2) (orc T (G N) live [] N 1) q1 a0 u0 u1 u2 u3).trans hc) N a)
theorem lp6_eq (N : Nat) (a0 : List Int) (a : Int × (List Int) × (List Int)) : (orc T (G N) live [] N 2) loop6 (K6 N (orc T (G N) live [] N 2)) (St6 a0 a) = lp6 N a0 a :=
  (orc_loop (b := body6) (live := [0, 3, 4, 5]) (by kernel_rfl)).trans (iter_eq (St6 a0) _ _ (fun q1 a => by
    have hc := congrFun (congrFun (congrArg (step6 N a0) (funext fun a => lp11_eq N a0 a)) (fun a => q1 (St6 a0 a))) a
    obtain ⟨u0, u1, u2⟩ := a
    exact (body6_0 N (orc T (G N) live [] N 2) (orc T (G N) live [] N 1) q1 a0 u0 u1 u2).trans hc) N a)
theorem lp3_eq (N : Nat) (a0 : List Int) (a : (List Int) × (List Int)) : (orc T (G N) live [] N 2) loop3 (K3 N (orc T (G N) live [] N 2)) (St3 a0 a) = lp3 N a0 a :=
  (orc_loop (b := body3) (live := [0, 3, 4]) (by kernel_rfl)).trans (iter_eq (St3 a0) _ _ (fun q1 a => by
    have hc := congrFun (congrFun (congrArg (step3 N a0) (funext fun a => lp6_eq N a0 a)) (fun a => q1 (St3 a0 a))) a
    obtain ⟨u0, u1⟩ := a
    exact (body3_0 N (orc T (G N) live [] N 2) (orc T (G N) live [] N 1) q1 a0 u0 u1).trans hc) N a)
theorem G_ok (N : Nat) : GamOK Tryz.prog (G N) := gam_ok (l := [(72, [], spec_l01Consts.sp N), (73, [], spec_l01Block.sp N)]) (⟨spec_l01Consts.snd N, spec_l01Block.snd N, trivial⟩)
theorem snd (N : Nat) : Sound Tryz.prog E 35 (sp N) :=
  Mir.sound T_OK (G_ok N) mixed Tryz.func35 (c := code) (by kernel_rfl) (by kernel_rfl) (sp N) (Nat.le_of_ble_eq_true (by kernel_rfl)) live [] (by
    rintro ⟨a0, _⟩ r h
    exact ⟨N, 2, ((run N _ a0).trans (congrArg (m0 N a0) (funext fun a => lp3_eq N a0 a))).trans h⟩)
end spec_l01Hash
namespace spec_l07Hash
noncomputable def code : Code := Tryz.f36.body.getD .skip
abbrev live : Live := []
noncomputable def G (N : Nat) : Ctx E := gam [(35, [], spec_l01Hash.sp N)]
noncomputable def m0 (N : Nat) (a0 : ByteArray) : Option R :=
  bif (room a0.size 1) then
  ob (spec_l01Hash.m N (bytesOf a0)) fun y1 =>
  some y1
  else none
theorem run (N : Nat) (o0 : Orc E R) (a0 : ByteArray) : runF T (G N) live [] Tryz.f36 code (sp N) o0 (a0, ()) = m0 N a0 := by kernel_rfl
theorem G_ok (N : Nat) : GamOK Tryz.prog (G N) := gam_ok (l := [(35, [], spec_l01Hash.sp N)]) (⟨spec_l01Hash.snd N, trivial⟩)
theorem snd (N : Nat) : Sound Tryz.prog E 36 (sp N) :=
  Mir.sound T_OK (G_ok N) mixed Tryz.func36 (c := code) (by kernel_rfl) (by kernel_rfl) (sp N) (Nat.le_of_ble_eq_true (by kernel_rfl)) live [] (by
    rintro ⟨a0, _⟩ r h
    exact ⟨N, 2, ((run N _ a0).trans rfl).trans h⟩)
end spec_l07Hash
namespace spec_l07Bit
noncomputable def code : Code := Tryz.f37.body.getD .skip
abbrev live : Live := []
noncomputable def G (N : Nat) : Ctx E := gam []
noncomputable def m0 (N : Nat) (a0 : ByteArray) (a1 : Int) : Option R :=
  bif (!decide ((8:Int) = 0)) then
  bif (decide (0 ≤ (w64 (Int.tdiv a1 (8:Int))))) then
  bif (decide ((w64 (Int.tdiv a1 (8:Int))) < (a0.size : Int))) then
  bif (!decide ((8:Int) = 0)) then
  bif (!decide ((wu64 (w64 ((7:Int) - (Int.tmod a1 (8:Int))))) < 0)) then
  (let w1 : Int := (ibit .and .i64 (w64 (Int.fdiv (sb a0 (w64 (Int.tdiv a1 (8:Int)))) (2 ^ (min (Int.toNat (wu64 (w64 ((7:Int) - (Int.tmod a1 (8:Int)))))) 8)))) (1:Int))
  some w1)
  else none
  else none
  else none
  else none
  else none
theorem run (N : Nat) (o0 : Orc E R) (a0 : ByteArray) (a1 : Int) : runF T (G N) live [] Tryz.f37 code (sp N) o0 (a0, a1, ()) = m0 N a0 a1 := by kernel_rfl
theorem G_ok (N : Nat) : GamOK Tryz.prog (G N) := gam_ok (l := []) (trivial)
theorem snd (N : Nat) : Sound Tryz.prog E 37 (sp N) :=
  Mir.sound T_OK (G_ok N) mixed Tryz.func37 (c := code) (by kernel_rfl) (by kernel_rfl) (sp N) (Nat.le_of_ble_eq_true (by kernel_rfl)) live [] (by
    rintro ⟨a0, a1, _⟩ r h
    exact ⟨N, 2, ((run N _ a0 a1).trans rfl).trans h⟩)
end spec_l07Bit
namespace spec_l07Near
noncomputable def code : Code := Tryz.f78.body.getD .skip
abbrev live : Live := [(1, [1, 2])]
noncomputable def G (N : Nat) : Ctx E := gam [(59, [], spec_l07Leaf.sp N), (37, [], spec_l07Bit.sp N), (36, [], spec_l07Hash.sp N)]
noncomputable def loop1 : Code := codeAt code [1, 0, 0]
noncomputable def body1 : Code := codeAt loop1 [0]
noncomputable def K1 (N : Nat) (o0 : Orc E R) : KT E R := kAt T (G N) live [] o0 code [1, 0, 0] (kfin T Tryz.f78 (sp N))
noncomputable def St1 (a0 : Branch) (a1 : ByteArray) : (ByteArray × ByteArray × Int × (List Branch)) → St E
  | (v1, v2, v3, v4) => { ρ := [(1, .c (.at (.str a1))), (2, .c (.at (.ptr 0 0)))], H := [(0, .box 25 [.str v1, .str v2, .int .i64 v3, .ro 25 (.st 25) v4])], nx := 1, n := 19, pin := [] }
noncomputable def m0 (N : Nat) (a0 : Branch) (a1 : ByteArray) (lp1 : ByteArray × ByteArray × Int × (List Branch) → Option R) : Option R :=
  lp1 (a0.Key, a0.Value, a0.At, a0.Kids)
theorem run (N : Nat) (o0 : Orc E R) (a0 : Branch) (a1 : ByteArray) : runF T (G N) live [] Tryz.f78 code (sp N) o0 (a0, a1, ()) = m0 N a0 a1 (fun a => o0 loop1 (K1 N o0) (St1 a0 a1 a)) := by kernel_rfl
theorem body1_0 (N : Nat) (o0 : Orc E R) (o1 : Orc E R) (q1 : St E → Option R) (a0 : Branch) (a1 : ByteArray) (v1 : ByteArray) (v2 : ByteArray) (v3 : Int) (v4 : List Branch) : runA T (G N) live [] o1 body1 (St1 a0 a1 (v1, v2, v3, v4)) (kloop [1, 2] q1 (K1 N o0)) = step1 N a0 a1 (fun a => q1 (St1 a0 a1 a)) (v1, v2, v3, v4) := by kernel_rfl
theorem lp1_eq (N : Nat) (a0 : Branch) (a1 : ByteArray) (a : ByteArray × ByteArray × Int × (List Branch)) : (orc T (G N) live [] N 2) loop1 (K1 N (orc T (G N) live [] N 2)) (St1 a0 a1 a) = lp1 N a0 a1 a :=
  (orc_loop (b := body1) (live := [1, 2]) (by kernel_rfl)).trans (iter_eq (St1 a0 a1) _ _ (fun q1 a => by
    have hc := congrFun (congrFun (rfl : (step1 N a0 a1) = (step1 N a0 a1)) (fun a => q1 (St1 a0 a1 a))) a
    obtain ⟨u0, u1, u2, u3⟩ := a
    exact (body1_0 N (orc T (G N) live [] N 2) (orc T (G N) live [] N 1) q1 a0 a1 u0 u1 u2 u3).trans hc) N a)
theorem G_ok (N : Nat) : GamOK Tryz.prog (G N) := gam_ok (l := [(59, [], spec_l07Leaf.sp N), (37, [], spec_l07Bit.sp N), (36, [], spec_l07Hash.sp N)]) (⟨spec_l07Leaf.snd N, spec_l07Bit.snd N, spec_l07Hash.snd N, trivial⟩)
theorem snd (N : Nat) : Sound Tryz.prog E 78 (sp N) :=
  Mir.sound T_OK (G_ok N) mixed Tryz.func78 (c := code) (by kernel_rfl) (by kernel_rfl) (sp N) (Nat.le_of_ble_eq_true (by kernel_rfl)) live [] (by
    rintro ⟨a0, a1, _⟩ r h
    exact ⟨N, 2, ((run N _ a0 a1).trans (congrArg (m0 N a0 a1) (funext fun a => lp1_eq N a0 a1 a))).trans h⟩)
end spec_l07Near
namespace spec_l07Differ
noncomputable def code : Code := Tryz.f77.body.getD .skip
abbrev live : Live := [(2, [0, 1, 5])]
noncomputable def G (N : Nat) : Ctx E := gam [(37, [], spec_l07Bit.sp N)]
noncomputable def loop2 : Code := codeAt code [1, 0, 1, 0]
noncomputable def body2 : Code := codeAt loop2 [0]
noncomputable def K2 (N : Nat) (o0 : Orc E R) : KT E R := kAt T (G N) live [] o0 code [1, 0, 1, 0] (kfin T Tryz.f77 (sp N))
noncomputable def St2 (a0 : ByteArray) (a1 : ByteArray) : Int → St E
  | v2 => { ρ := [(0, .c (.at (.str a0))), (1, .c (.at (.str a1))), (5, .c (.at (.int .i64 v2)))], H := [], nx := 0, n := 18, pin := [] }
noncomputable def m0 (N : Nat) (a0 : ByteArray) (a1 : ByteArray) (lp2 : Int → Option R) : Option R :=
  lp2 (0:Int)
theorem run (N : Nat) (o0 : Orc E R) (a0 : ByteArray) (a1 : ByteArray) : runF T (G N) live [] Tryz.f77 code (sp N) o0 (a0, a1, ()) = m0 N a0 a1 (fun a => o0 loop2 (K2 N o0) (St2 a0 a1 a)) := by kernel_rfl
theorem body2_0 (N : Nat) (o0 : Orc E R) (o1 : Orc E R) (q1 : St E → Option R) (a0 : ByteArray) (a1 : ByteArray) (v2 : Int) : runA T (G N) live [] o1 body2 (St2 a0 a1 v2) (kloop [0, 1, 5] q1 (K2 N o0)) = step2 N a0 a1 (fun a => q1 (St2 a0 a1 a)) v2 := by kernel_rfl
theorem lp2_eq (N : Nat) (a0 : ByteArray) (a1 : ByteArray) (a : Int) : (orc T (G N) live [] N 2) loop2 (K2 N (orc T (G N) live [] N 2)) (St2 a0 a1 a) = lp2 N a0 a1 a :=
  (orc_loop (b := body2) (live := [0, 1, 5]) (by kernel_rfl)).trans (iter_eq (St2 a0 a1) _ _ (fun q1 a => by
    have hc := congrFun (congrFun (rfl : (step2 N a0 a1) = (step2 N a0 a1)) (fun a => q1 (St2 a0 a1 a))) a
    exact (body2_0 N (orc T (G N) live [] N 2) (orc T (G N) live [] N 1) q1 a0 a1 a).trans hc) N a)
theorem G_ok (N : Nat) : GamOK Tryz.prog (G N) := gam_ok (l := [(37, [], spec_l07Bit.sp N)]) (⟨spec_l07Bit.snd N, trivial⟩)
theorem snd (N : Nat) : Sound Tryz.prog E 77 (sp N) :=
  Mir.sound T_OK (G_ok N) mixed Tryz.func77 (c := code) (by kernel_rfl) (by kernel_rfl) (sp N) (Nat.le_of_ble_eq_true (by kernel_rfl)) live [] (by
    rintro ⟨a0, a1, _⟩ r h
    exact ⟨N, 2, ((run N _ a0 a1).trans (congrArg (m0 N a0 a1) (funext fun a => lp2_eq N a0 a1 a))).trans h⟩)
end spec_l07Differ
namespace spec_l07Insert
noncomputable def code : Code := Tryz.f79.body.getD .skip
abbrev live : Live := []
noncomputable def G (N : Nat) (slf : Branch → ByteArray → Int → Branch → Option R) : Ctx E := gam [(59, [], spec_l07Leaf.sp N), (37, [], spec_l07Bit.sp N), (79, [], spf slf)]
noncomputable def m0 (N : Nat) (slf : Branch → ByteArray → Int → Branch → Option R) (a0 : Branch) (a1 : ByteArray) (a2 : Int) (a3 : Branch) : Option R :=
  bif (a2 == (256:Int)) then
    ob (spec_l07Leaf.m N (Branch.mk a0.Key a0.Value a0.At a0.Kids)) fun y1 =>
    bif (bif true then y1 else false) then
      some (Branch.mk a3.Key a3.Value a3.At a3.Kids)
    else
    ob (spec_l07Leaf.m N (Branch.mk a0.Key a0.Value a0.At a0.Kids)) fun y2 =>
    bif y2 then
      ob (spec_l07Bit.m N a1 a2) fun y3 =>
      bif (y3 == (0:Int)) then
        some (Branch.mk ByteArray.empty ByteArray.empty a2 ([(Branch.mk a3.Key a3.Value a3.At a3.Kids), (Branch.mk a0.Key a0.Value a0.At a0.Kids)]))
      else
      some (Branch.mk ByteArray.empty ByteArray.empty a2 ([(Branch.mk a0.Key a0.Value a0.At a0.Kids), (Branch.mk a3.Key a3.Value a3.At a3.Kids)]))
    else
    bif (bif false then true else (decide (a0.At > a2))) then
      ob (spec_l07Bit.m N a1 a2) fun y4 =>
      bif (y4 == (0:Int)) then
        some (Branch.mk ByteArray.empty ByteArray.empty a2 ([(Branch.mk a3.Key a3.Value a3.At a3.Kids), (Branch.mk a0.Key a0.Value a0.At a0.Kids)]))
      else
      some (Branch.mk ByteArray.empty ByteArray.empty a2 ([(Branch.mk a0.Key a0.Value a0.At a0.Kids), (Branch.mk a3.Key a3.Value a3.At a3.Kids)]))
    else
    ob (spec_l07Bit.m N a1 a0.At) fun y5 =>
    bif (room (([] : List Branch).length + a0.Kids.length) 64) then
    bif (decide (0 ≤ y5)) then
    bif (decide (y5 < (a0.Kids.length : Int))) then
    ob (slf (Branch.mk ((a0.Kids.getD (Int.toNat y5) Branch.dz).Key) ((a0.Kids.getD (Int.toNat y5) Branch.dz).Value) ((a0.Kids.getD (Int.toNat y5) Branch.dz).At) ((a0.Kids.getD (Int.toNat y5) Branch.dz).Kids)) a1 a2 (Branch.mk a3.Key a3.Value a3.At a3.Kids)) fun y6 =>
    bif (decide (0 ≤ y5)) then
    bif (decide (y5 < ((([] : List Branch) ++ a0.Kids).length : Int))) then
    some (Branch.mk ByteArray.empty ByteArray.empty a0.At ((([] : List Branch) ++ a0.Kids).set (Int.toNat y5) (Branch.mk y6.Key y6.Value y6.At y6.Kids)))
    else none
    else none
    else none
    else none
    else none
  else
  ob (spec_l07Leaf.m N (Branch.mk a0.Key a0.Value a0.At a0.Kids)) fun y7 =>
  bif y7 then
    ob (spec_l07Bit.m N a1 a2) fun y8 =>
    bif (y8 == (0:Int)) then
      some (Branch.mk ByteArray.empty ByteArray.empty a2 ([(Branch.mk a3.Key a3.Value a3.At a3.Kids), (Branch.mk a0.Key a0.Value a0.At a0.Kids)]))
    else
    some (Branch.mk ByteArray.empty ByteArray.empty a2 ([(Branch.mk a0.Key a0.Value a0.At a0.Kids), (Branch.mk a3.Key a3.Value a3.At a3.Kids)]))
  else
  bif (bif false then true else (decide (a0.At > a2))) then
    ob (spec_l07Bit.m N a1 a2) fun y9 =>
    bif (y9 == (0:Int)) then
      some (Branch.mk ByteArray.empty ByteArray.empty a2 ([(Branch.mk a3.Key a3.Value a3.At a3.Kids), (Branch.mk a0.Key a0.Value a0.At a0.Kids)]))
    else
    some (Branch.mk ByteArray.empty ByteArray.empty a2 ([(Branch.mk a0.Key a0.Value a0.At a0.Kids), (Branch.mk a3.Key a3.Value a3.At a3.Kids)]))
  else
  ob (spec_l07Bit.m N a1 a0.At) fun y10 =>
  bif (room (([] : List Branch).length + a0.Kids.length) 64) then
  bif (decide (0 ≤ y10)) then
  bif (decide (y10 < (a0.Kids.length : Int))) then
  ob (slf (Branch.mk ((a0.Kids.getD (Int.toNat y10) Branch.dz).Key) ((a0.Kids.getD (Int.toNat y10) Branch.dz).Value) ((a0.Kids.getD (Int.toNat y10) Branch.dz).At) ((a0.Kids.getD (Int.toNat y10) Branch.dz).Kids)) a1 a2 (Branch.mk a3.Key a3.Value a3.At a3.Kids)) fun y11 =>
  bif (decide (0 ≤ y10)) then
  bif (decide (y10 < ((([] : List Branch) ++ a0.Kids).length : Int))) then
  some (Branch.mk ByteArray.empty ByteArray.empty a0.At ((([] : List Branch) ++ a0.Kids).set (Int.toNat y10) (Branch.mk y11.Key y11.Value y11.At y11.Kids)))
  else none
  else none
  else none
  else none
  else none
theorem run (N : Nat) (o0 : Orc E R) (slf : Branch → ByteArray → Int → Branch → Option R) (a0 : Branch) (a1 : ByteArray) (a2 : Int) (a3 : Branch) : runF T (G N slf) live [] Tryz.f79 code (spf (mb N slf)) o0 (a0, a1, a2, a3, ()) = m0 N slf a0 a1 a2 a3 := by kernel_rfl
theorem G_ok (N : Nat) (slf : Branch → ByteArray → Int → Branch → Option R) (hs : Sound Tryz.prog E 79 (spf slf)) : GamOK Tryz.prog (G N slf) := gam_ok (l := [(59, [], spec_l07Leaf.sp N), (37, [], spec_l07Bit.sp N), (79, [], spf slf)]) (⟨spec_l07Leaf.snd N, spec_l07Bit.snd N, hs, trivial⟩)
theorem sndF (N : Nat) : ∀ n, Sound Tryz.prog E 79 (spf (mF N n))
  | 0 => sound_none Tryz.func79 (c := code) (by kernel_rfl) (by kernel_rfl) (spf (mF N 0)) (fun _ => rfl)
  | n + 1 => by
    have hr := fun (a0 : Branch) (a1 : ByteArray) (a2 : Int) (a3 : Branch) => (run N (orc T (G N (mF N n)) live [] N 2) (mF N n) a0 a1 a2 a3).trans rfl
    exact Mir.sound T_OK (G_ok N (mF N n) (sndF N n)) mixed Tryz.func79 (c := code) (by kernel_rfl) (by kernel_rfl) (spf (mF N (n + 1))) (Nat.le_of_ble_eq_true (by kernel_rfl)) live [] (by
      rintro ⟨a0, a1, a2, a3, _⟩ r h
      exact ⟨N, 2, (hr a0 a1 a2 a3).trans h⟩)
theorem snd (N : Nat) : Sound Tryz.prog E 79 (sp N) := sndF N N
end spec_l07Insert
namespace spec_l07Put
noncomputable def code : Code := Tryz.f43.body.getD .skip
abbrev live : Live := []
noncomputable def G (N : Nat) : Ctx E := gam [(57, [], spec_l07Empty.sp N), (76, [], spec_l07New.sp N), (36, [], spec_l07Hash.sp N), (78, [], spec_l07Near.sp N), (77, [], spec_l07Differ.sp N), (79, [], spec_l07Insert.sp N)]
noncomputable def m0 (N : Nat) (a0 : Branch) (a1 : ByteArray) (a2 : ByteArray) : Option R :=
  ob (spec_l07Empty.m N (Branch.mk a0.Key a0.Value a0.At a0.Kids)) fun y1 =>
  bif y1 then
    ob (spec_l07New.m N a1 a2) fun y2 =>
    some (Branch.mk y2.Key y2.Value y2.At y2.Kids)
  else
  ob (spec_l07Hash.m N a1) fun y3 =>
  ob (spec_l07Near.m N (Branch.mk a0.Key a0.Value a0.At a0.Kids) y3) fun y4 =>
  ob (spec_l07Differ.m N y3 y4) fun y5 =>
  ob (spec_l07New.m N a1 a2) fun y6 =>
  ob (spec_l07Insert.m N (Branch.mk a0.Key a0.Value a0.At a0.Kids) y3 y5 (Branch.mk y6.Key y6.Value y6.At y6.Kids)) fun y7 =>
  some (Branch.mk y7.Key y7.Value y7.At y7.Kids)
theorem run (N : Nat) (o0 : Orc E R) (a0 : Branch) (a1 : ByteArray) (a2 : ByteArray) : runF T (G N) live [] Tryz.f43 code (sp N) o0 (a0, a1, a2, ()) = m0 N a0 a1 a2 := by kernel_rfl
theorem G_ok (N : Nat) : GamOK Tryz.prog (G N) := gam_ok (l := [(57, [], spec_l07Empty.sp N), (76, [], spec_l07New.sp N), (36, [], spec_l07Hash.sp N), (78, [], spec_l07Near.sp N), (77, [], spec_l07Differ.sp N), (79, [], spec_l07Insert.sp N)]) (⟨spec_l07Empty.snd N, spec_l07New.snd N, spec_l07Hash.snd N, spec_l07Near.snd N, spec_l07Differ.snd N, spec_l07Insert.snd N, trivial⟩)
theorem snd (N : Nat) : Sound Tryz.prog E 43 (sp N) :=
  Mir.sound T_OK (G_ok N) mixed Tryz.func43 (c := code) (by kernel_rfl) (by kernel_rfl) (sp N) (Nat.le_of_ble_eq_true (by kernel_rfl)) live [] (by
    rintro ⟨a0, a1, a2, _⟩ r h
    exact ⟨N, 2, ((run N _ a0 a1 a2).trans rfl).trans h⟩)
end spec_l07Put
namespace spec_l00Src_chance
noncomputable def code : Code := Tryz.f45.body.getD .skip
abbrev live : Live := []
noncomputable def G (N : Nat) : Ctx E := gam [(40, [], spec_l00Src_next_.sp N)]
noncomputable def m0 (N : Nat) (a0 : l00Src) (a1 : Int) : Option R :=
  ob (spec_l00Src_next_.m N a0 a1) fun y1 =>
  some ((y1.1 == (w64 (a1 - (1:Int)))), y1.2)
theorem run (N : Nat) (o0 : Orc E R) (a0 : l00Src) (a1 : Int) : runF TD (G N) live [] Tryz.f45 code (sp N) o0 (a0, a1, ()) = m0 N a0 a1 := by kernel_rfl
theorem G_ok (N : Nat) : GamOK Tryz.prog (G N) := gam_ok (l := [(40, [], spec_l00Src_next_.sp N)]) (⟨spec_l00Src_next_.snd N, trivial⟩)
theorem snd (N : Nat) : Sound Tryz.prog E 45 (sp N) :=
  Mir.sound TD_OK (G_ok N) mixed Tryz.func45 (c := code) (by kernel_rfl) (by kernel_rfl) (sp N) (Nat.le_of_ble_eq_true (by kernel_rfl)) live [] (by
    rintro ⟨a0, a1, _⟩ r h
    exact ⟨N, 2, ((run N _ a0 a1).trans rfl).trans h⟩)
end spec_l00Src_chance
namespace spec_l07Own
noncomputable def code : Code := Tryz.f47.body.getD .skip
abbrev live : Live := [(3, [1, 2, 3, 4])]
noncomputable def G (N : Nat) (slf : Branch → Option R) : Ctx E := gam [(47, [], spf slf)]
noncomputable def loop3 : Code := codeAt code [1, 1, 0, 1, 0]
noncomputable def body3 : Code := codeAt loop3 [0]
noncomputable def K3 (N : Nat) (slf : Branch → Option R) (o0 : Orc E R) : KT E R := kAt TD (G N slf) live [] o0 code [1, 1, 0, 1, 0] (kfin TD Tryz.f47 (spf (mb N slf)))
noncomputable def St3 (slf : Branch → Option R) (a0 : Branch) : A3 → St E
  | .s0 v0 v5 v6 v7 => { ρ := [(1, .c (.at (.ptr 0 0))), (2, .c (.at (.ptr 1 0))), (3, .c (.at (.ptr 2 0))), (4, .c (.at (.int .i64 v0)))], H := [(0, .box 25 [.str a0.Key, .str a0.Value, .int .i64 a0.At, .ro 25 (.st 25) a0.Kids]), (1, .box 25 [.str v5, .str v6, .int .i64 v7, .nils]), (2, .box 25 [.str a0.Key, .str a0.Value, .int .i64 a0.At, .nils])], nx := 3, n := 31, pin := [] }
  | .s1 v0 v5 v6 v7 v11 => { ρ := [(1, .c (.at (.ptr 0 0))), (2, .c (.at (.ptr 1 0))), (3, .c (.at (.ptr 2 0))), (4, .c (.at (.int .i64 v0)))], H := [(0, .box 25 [.str a0.Key, .str a0.Value, .int .i64 a0.At, .ro 25 (.st 25) a0.Kids]), (1, .box 25 [.str v5, .str v6, .int .i64 v7, .nils]), (2, .box 25 [.str a0.Key, .str a0.Value, .int .i64 a0.At, .own 3]), (3, .drow 25 (.st 25) v11 4), (4, .hdr)], nx := 5, n := 31, pin := [] }
noncomputable def m0 (N : Nat) (slf : Branch → Option R) (a0 : Branch) (lp3 : A3 → Option R) : Option R :=
  lp3 (.s0 (0:Int) ByteArray.empty ByteArray.empty (0:Int))
theorem run (N : Nat) (o0 : Orc E R) (slf : Branch → Option R) (a0 : Branch) : runF TD (G N slf) live [] Tryz.f47 code (spf (mb N slf)) o0 (a0, ()) = m0 N slf a0 (fun a => o0 loop3 (K3 N slf o0) (St3 slf a0 a)) := by kernel_rfl
theorem body3_0 (N : Nat) (o0 : Orc E R) (o1 : Orc E R) (q1 : St E → Option R) (slf : Branch → Option R) (a0 : Branch) (v0 : Int) (v5 : ByteArray) (v6 : ByteArray) (v7 : Int) : runA TD (G N slf) live [] o1 body3 (St3 slf a0 (.s0 v0 v5 v6 v7)) (kloop [1, 2, 3, 4] q1 (K3 N slf o0)) = step3 N slf a0 (fun a => q1 (St3 slf a0 a)) (.s0 v0 v5 v6 v7) := by kernel_rfl
theorem body3_1 (N : Nat) (o0 : Orc E R) (o1 : Orc E R) (q1 : St E → Option R) (slf : Branch → Option R) (a0 : Branch) (v0 : Int) (v5 : ByteArray) (v6 : ByteArray) (v7 : Int) (v11 : List Branch) : runA TD (G N slf) live [] o1 body3 (St3 slf a0 (.s1 v0 v5 v6 v7 v11)) (kloop [1, 2, 3, 4] q1 (K3 N slf o0)) = step3 N slf a0 (fun a => q1 (St3 slf a0 a)) (.s1 v0 v5 v6 v7 v11) := by kernel_rfl
theorem lp3_eq (N : Nat) (slf : Branch → Option R) (a0 : Branch) (a : A3) : (orc TD (G N slf) live [] N 2) loop3 (K3 N slf (orc TD (G N slf) live [] N 2)) (St3 slf a0 a) = lp3 N slf a0 a :=
  (orc_loop (b := body3) (live := [1, 2, 3, 4]) (by kernel_rfl)).trans (iter_eq (St3 slf a0) _ _ (fun q1 a => by
    have hc := congrFun (congrFun (rfl : (step3 N slf a0) = (step3 N slf a0)) (fun a => q1 (St3 slf a0 a))) a
    cases a with
    | s0 u0 u1 u2 u3 => exact (body3_0 N (orc TD (G N slf) live [] N 2) (orc TD (G N slf) live [] N 1) q1 slf a0 u0 u1 u2 u3).trans hc
    | s1 u0 u1 u2 u3 u4 => exact (body3_1 N (orc TD (G N slf) live [] N 2) (orc TD (G N slf) live [] N 1) q1 slf a0 u0 u1 u2 u3 u4).trans hc) N a)
theorem G_ok (N : Nat) (slf : Branch → Option R) (hs : Sound Tryz.prog E 47 (spf slf)) : GamOK Tryz.prog (G N slf) := gam_ok (l := [(47, [], spf slf)]) (⟨hs, trivial⟩)
theorem sndF (N : Nat) : ∀ n, Sound Tryz.prog E 47 (spf (mF N n))
  | 0 => sound_none Tryz.func47 (c := code) (by kernel_rfl) (by kernel_rfl) (spf (mF N 0)) (fun _ => rfl)
  | n + 1 => by
    have hr := fun (a0 : Branch) => (run N (orc TD (G N (mF N n)) live [] N 2) (mF N n) a0).trans (congrArg (m0 N (mF N n) a0) (funext fun a => lp3_eq N (mF N n) a0 a))
    exact Mir.sound TD_OK (G_ok N (mF N n) (sndF N n)) mixed Tryz.func47 (c := code) (by kernel_rfl) (by kernel_rfl) (spf (mF N (n + 1))) (Nat.le_of_ble_eq_true (by kernel_rfl)) live [] (by
      rintro ⟨a0, _⟩ r h
      exact ⟨N, 2, (hr a0).trans h⟩)
theorem snd (N : Nat) : Sound Tryz.prog E 47 (sp N) := sndF N N
end spec_l07Own
namespace spec_l00Digits
noncomputable def code : Code := Tryz.f46.body.getD .skip
abbrev live : Live := []
noncomputable def G (N : Nat) (slf : Int → Option R) : Ctx E := gam [(46, [], spf slf)]
noncomputable def m0 (N : Nat) (slf : Int → Option R) (a0 : Int) : Option R :=
  bif (a0 == (-9223372036854775808:Int)) then
    some (⟨#[45, 57, 50, 50, 51, 51, 55, 50, 48, 51, 54, 56, 53, 52, 55, 55, 53, 56, 48, 56]⟩ : ByteArray)
  else
  bif (decide (a0 < (0:Int))) then
    ob (slf (w64 (0 - a0))) fun y1 =>
    bif (decide ((⟨#[45]⟩ : ByteArray).size + y1.size ≤ 9223372036854775807)) then
    some ((⟨#[45]⟩ : ByteArray) ++ y1)
    else none
  else
  bif (decide (a0 < (10:Int))) then
    some (strOf ([(wu8 (w64 ((48:Int) + a0)))]))
  else
  bif (!decide ((10:Int) = 0)) then
  ob (slf (w64 (Int.tdiv a0 (10:Int)))) fun y2 =>
  bif (!decide ((10:Int) = 0)) then
  bif (decide (y2.size + (strOf ([(wu8 (w64 ((48:Int) + (Int.tmod a0 (10:Int)))))])).size ≤ 9223372036854775807)) then
  some (y2 ++ (strOf ([(wu8 (w64 ((48:Int) + (Int.tmod a0 (10:Int)))))])))
  else none
  else none
  else none
theorem run (N : Nat) (o0 : Orc E R) (slf : Int → Option R) (a0 : Int) : runF T (G N slf) live [] Tryz.f46 code (spf (mb N slf)) o0 (a0, ()) = m0 N slf a0 := by kernel_rfl
theorem G_ok (N : Nat) (slf : Int → Option R) (hs : Sound Tryz.prog E 46 (spf slf)) : GamOK Tryz.prog (G N slf) := gam_ok (l := [(46, [], spf slf)]) (⟨hs, trivial⟩)
theorem sndF (N : Nat) : ∀ n, Sound Tryz.prog E 46 (spf (mF N n))
  | 0 => sound_none Tryz.func46 (c := code) (by kernel_rfl) (by kernel_rfl) (spf (mF N 0)) (fun _ => rfl)
  | n + 1 => by
    have hr := fun (a0 : Int) => (run N (orc T (G N (mF N n)) live [] N 2) (mF N n) a0).trans rfl
    exact Mir.sound T_OK (G_ok N (mF N n) (sndF N n)) mixed Tryz.func46 (c := code) (by kernel_rfl) (by kernel_rfl) (spf (mF N (n + 1))) (Nat.le_of_ble_eq_true (by kernel_rfl)) live [] (by
      rintro ⟨a0, _⟩ r h
      exact ⟨N, 2, (hr a0).trans h⟩)
theorem snd (N : Nat) : Sound Tryz.prog E 46 (sp N) := sndF N N
end spec_l00Digits
namespace spec_l00Src_branch
noncomputable def code : Code := Tryz.f15.body.getD .skip
abbrev live : Live := [(8, [0, 2, 3, 5]), (3, [0, 2, 3, 4])]
noncomputable def G (N : Nat) : Ctx E := gam [(41, [], spec_l00Src_size_.sp N), (40, [], spec_l00Src_next_.sp N), (42, [], spec_l07Size.sp N), (16, [], spec_l00Src_mapKey.sp N), (44, [], spec_l00Src_datum.sp N), (43, [], spec_l07Put.sp N), (45, [], spec_l00Src_chance.sp N), (47, [], spec_l07Own.sp N), (46, [], spec_l00Digits.sp N)]
noncomputable def loop3 : Code := codeAt code [1, 1, 0, 1, 0]
noncomputable def body3 : Code := codeAt loop3 [0]
noncomputable def loop8 : Code := codeAt code [1, 1, 1, 0, 1, 0, 1, 0]
noncomputable def body8 : Code := codeAt loop8 [0]
noncomputable def K3 (N : Nat) (o0 : Orc E R) : KT E R := kAt TD (G N) live [] o0 code [1, 1, 0, 1, 0] (kfin TD Tryz.f15 (sp N))
noncomputable def St3 (a0 : l00Src) : A3 → St E
  | .s0 v0 v1 v2 v3 v4 v5 v6 v7 v8 v9 => { ρ := [(0, .c (.at (.ptr 0 0))), (2, .c (.at (.ptr 1 0))), (3, .c (.at (.ptr 2 0))), (4, .c (.at (.int .i64 v0)))], H := [(0, .box 65 [.ro 5 (.int .u8) v1, .int .i64 v2, .int .i64 v3]), (1, .box 25 [.str v4, .str v5, .int .i64 v6, .nils]), (2, .box 25 [.str v7, .str v8, .int .i64 v9, .nils])], nx := 3, n := 41, pin := [0] }
  | .s1 v0 v1 v2 v3 v4 v5 v6 v7 v8 v9 v10 => { ρ := [(0, .c (.at (.ptr 0 0))), (2, .c (.at (.ptr 1 0))), (3, .c (.at (.ptr 2 0))), (4, .c (.at (.int .i64 v0)))], H := [(0, .box 65 [.ro 5 (.int .u8) v1, .int .i64 v2, .int .i64 v3]), (1, .box 25 [.str v4, .str v5, .int .i64 v6, .nils]), (2, .box 25 [.str v7, .str v8, .int .i64 v9, .ro 25 (.st 25) v10])], nx := 3, n := 41, pin := [0] }
noncomputable def K8 (N : Nat) (o0 : Orc E R) : KT E R := kAt TD (G N) live [] o0 code [1, 1, 1, 0, 1, 0, 1, 0] (kfin TD Tryz.f15 (sp N))
noncomputable def St8 (a0 : l00Src) : A8 → St E
  | .s0 v0 v1 v2 v3 v4 v5 v6 v7 v8 v9 => { ρ := [(0, .c (.at (.ptr 0 0))), (2, .c (.at (.ptr 1 0))), (3, .c (.at (.ptr 2 0))), (5, .c (.at (.int .i64 v0)))], H := [(0, .box 65 [.ro 5 (.int .u8) v1, .int .i64 v2, .int .i64 v3]), (1, .box 25 [.str v4, .str v5, .int .i64 v6, .nils]), (2, .box 25 [.str v7, .str v8, .int .i64 v9, .nils])], nx := 3, n := 41, pin := [0] }
  | .s1 v0 v1 v2 v3 v4 v5 v6 v7 v8 v9 v10 => { ρ := [(0, .c (.at (.ptr 0 0))), (2, .c (.at (.ptr 1 0))), (3, .c (.at (.ptr 2 0))), (5, .c (.at (.int .i64 v0)))], H := [(0, .box 65 [.ro 5 (.int .u8) v1, .int .i64 v2, .int .i64 v3]), (1, .box 25 [.str v4, .str v5, .int .i64 v6, .nils]), (2, .box 25 [.str v7, .str v8, .int .i64 v9, .ro 25 (.st 25) v10])], nx := 3, n := 41, pin := [0] }
noncomputable def m0 (N : Nat) (a0 : l00Src) (lp3 : A3 → Option R) : Option R :=
  ob (spec_l00Src_size_.m N a0 (12:Int)) fun y1 =>
  ob (spec_l00Src_next_.m N a0 (w64 (y1 + (3:Int)))) fun y2 =>
  lp3 (.s0 y2.1 y2.2.code y2.2.«at» y2.2.seed ByteArray.empty ByteArray.empty (0:Int) ByteArray.empty ByteArray.empty (0:Int))
theorem run (N : Nat) (o0 : Orc E R) (a0 : l00Src) : runF TD (G N) live [] Tryz.f15 code (sp N) o0 (a0, ()) = m0 N a0 (fun a => o0 loop3 (K3 N o0) (St3 a0 a)) := by kernel_rfl
theorem body3_0 (N : Nat) (o0 : Orc E R) (o1 : Orc E R) (q1 : St E → Option R) (a0 : l00Src) (v0 : Int) (v1 : List Int) (v2 : Int) (v3 : Int) (v4 : ByteArray) (v5 : ByteArray) (v6 : Int) (v7 : ByteArray) (v8 : ByteArray) (v9 : Int) : runA TD (G N) live [] o1 body3 (St3 a0 (.s0 v0 v1 v2 v3 v4 v5 v6 v7 v8 v9)) (kloop [0, 2, 3, 4] q1 (K3 N o0)) = step3 N a0 (fun a => o0 loop8 (K8 N o0) (St8 a0 a)) (fun a => q1 (St3 a0 a)) (.s0 v0 v1 v2 v3 v4 v5 v6 v7 v8 v9) := by kernel_rfl
theorem body3_1 (N : Nat) (o0 : Orc E R) (o1 : Orc E R) (q1 : St E → Option R) (a0 : l00Src) (v0 : Int) (v1 : List Int) (v2 : Int) (v3 : Int) (v4 : ByteArray) (v5 : ByteArray) (v6 : Int) (v7 : ByteArray) (v8 : ByteArray) (v9 : Int) (v10 : List Branch) : runA TD (G N) live [] o1 body3 (St3 a0 (.s1 v0 v1 v2 v3 v4 v5 v6 v7 v8 v9 v10)) (kloop [0, 2, 3, 4] q1 (K3 N o0)) = step3 N a0 (fun a => o0 loop8 (K8 N o0) (St8 a0 a)) (fun a => q1 (St3 a0 a)) (.s1 v0 v1 v2 v3 v4 v5 v6 v7 v8 v9 v10) := by kernel_rfl
theorem body8_0 (N : Nat) (o0 : Orc E R) (o1 : Orc E R) (q1 : St E → Option R) (a0 : l00Src) (v0 : Int) (v1 : List Int) (v2 : Int) (v3 : Int) (v4 : ByteArray) (v5 : ByteArray) (v6 : Int) (v7 : ByteArray) (v8 : ByteArray) (v9 : Int) : runA TD (G N) live [] o1 body8 (St8 a0 (.s0 v0 v1 v2 v3 v4 v5 v6 v7 v8 v9)) (kloop [0, 2, 3, 5] q1 (K8 N o0)) = step8 N a0 (fun a => q1 (St8 a0 a)) (.s0 v0 v1 v2 v3 v4 v5 v6 v7 v8 v9) := by kernel_rfl
theorem body8_1 (N : Nat) (o0 : Orc E R) (o1 : Orc E R) (q1 : St E → Option R) (a0 : l00Src) (v0 : Int) (v1 : List Int) (v2 : Int) (v3 : Int) (v4 : ByteArray) (v5 : ByteArray) (v6 : Int) (v7 : ByteArray) (v8 : ByteArray) (v9 : Int) (v10 : List Branch) : runA TD (G N) live [] o1 body8 (St8 a0 (.s1 v0 v1 v2 v3 v4 v5 v6 v7 v8 v9 v10)) (kloop [0, 2, 3, 5] q1 (K8 N o0)) = step8 N a0 (fun a => q1 (St8 a0 a)) (.s1 v0 v1 v2 v3 v4 v5 v6 v7 v8 v9 v10) := by kernel_rfl
theorem lp8_eq (N : Nat) (a0 : l00Src) (a : A8) : (orc TD (G N) live [] N 2) loop8 (K8 N (orc TD (G N) live [] N 2)) (St8 a0 a) = lp8 N a0 a :=
  (orc_loop (b := body8) (live := [0, 2, 3, 5]) (by kernel_rfl)).trans (iter_eq (St8 a0) _ _ (fun q1 a => by
    have hc := congrFun (congrFun (rfl : (step8 N a0) = (step8 N a0)) (fun a => q1 (St8 a0 a))) a
    cases a with
    | s0 u0 u1 u2 u3 u4 u5 u6 u7 u8 u9 => exact (body8_0 N (orc TD (G N) live [] N 2) (orc TD (G N) live [] N 1) q1 a0 u0 u1 u2 u3 u4 u5 u6 u7 u8 u9).trans hc
    | s1 u0 u1 u2 u3 u4 u5 u6 u7 u8 u9 u10 => exact (body8_1 N (orc TD (G N) live [] N 2) (orc TD (G N) live [] N 1) q1 a0 u0 u1 u2 u3 u4 u5 u6 u7 u8 u9 u10).trans hc) N a)
theorem lp3_eq (N : Nat) (a0 : l00Src) (a : A3) : (orc TD (G N) live [] N 2) loop3 (K3 N (orc TD (G N) live [] N 2)) (St3 a0 a) = lp3 N a0 a :=
  (orc_loop (b := body3) (live := [0, 2, 3, 4]) (by kernel_rfl)).trans (iter_eq (St3 a0) _ _ (fun q1 a => by
    have hc := congrFun (congrFun (congrArg (step3 N a0) (funext fun a => lp8_eq N a0 a)) (fun a => q1 (St3 a0 a))) a
    cases a with
    | s0 u0 u1 u2 u3 u4 u5 u6 u7 u8 u9 => exact (body3_0 N (orc TD (G N) live [] N 2) (orc TD (G N) live [] N 1) q1 a0 u0 u1 u2 u3 u4 u5 u6 u7 u8 u9).trans hc
    | s1 u0 u1 u2 u3 u4 u5 u6 u7 u8 u9 u10 => exact (body3_1 N (orc TD (G N) live [] N 2) (orc TD (G N) live [] N 1) q1 a0 u0 u1 u2 u3 u4 u5 u6 u7 u8 u9 u10).trans hc) N a)
theorem G_ok (N : Nat) : GamOK Tryz.prog (G N) := gam_ok (l := [(41, [], spec_l00Src_size_.sp N), (40, [], spec_l00Src_next_.sp N), (42, [], spec_l07Size.sp N), (16, [], spec_l00Src_mapKey.sp N), (44, [], spec_l00Src_datum.sp N), (43, [], spec_l07Put.sp N), (45, [], spec_l00Src_chance.sp N), (47, [], spec_l07Own.sp N), (46, [], spec_l00Digits.sp N)]) (⟨spec_l00Src_size_.snd N, spec_l00Src_next_.snd N, spec_l07Size.snd N, spec_l00Src_mapKey.snd N, spec_l00Src_datum.snd N, spec_l07Put.snd N, spec_l00Src_chance.snd N, spec_l07Own.snd N, spec_l00Digits.snd N, trivial⟩)
theorem snd (N : Nat) : Sound Tryz.prog E 15 (sp N) :=
  Mir.sound TD_OK (G_ok N) mixed Tryz.func15 (c := code) (by kernel_rfl) (by kernel_rfl) (sp N) (Nat.le_of_ble_eq_true (by kernel_rfl)) live [] (by
    rintro ⟨a0, _⟩ r h
    exact ⟨N, 2, ((run N _ a0).trans (congrArg (m0 N a0) (funext fun a => lp3_eq N a0 a))).trans h⟩)
end spec_l00Src_branch
end Mir.Y
