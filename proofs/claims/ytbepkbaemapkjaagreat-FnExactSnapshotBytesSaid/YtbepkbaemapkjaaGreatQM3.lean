/- Models of functions. -/
import Derived.Test.YtbepkbaemapkjaaGreatQM2
namespace Mir.Y
set_option linter.unusedVariables false
set_option maxRecDepth 10000
open Go Go.Proofs Mir
/-! ### laws_markText: loop.example/g00220/laws.markText -/
namespace laws_markText
abbrev R := ByteArray
noncomputable def step4 (N : Nat) (a0 : Int) (rec : (Int × ByteArray) → Option R) : (Int × ByteArray) → Option R
  | (v0, v1) =>
    bif (decide (v0 > (0:Int))) then
      bif (!decide ((10:Int) = 0)) then
      bif (decide ((strOf ([(wu8 (w64 ((48:Int) + (Int.tmod v0 (10:Int)))))])).size + v1.size ≤ 9223372036854775807)) then
      bif (!decide ((10:Int) = 0)) then
      rec ((w64 (Int.tdiv v0 (10:Int))), ((strOf ([(wu8 (w64 ((48:Int) + (Int.tmod v0 (10:Int)))))])) ++ v1))
      else none
      else none
      else none
    else
    bif (decide ((⟨#[109]⟩ : ByteArray).size + v1.size ≤ 9223372036854775807)) then
    some ((⟨#[109]⟩ : ByteArray) ++ v1)
    else none
noncomputable def lp4 (N : Nat) (a0 : Int) : (Int × ByteArray) → Option R :=
  miter (fun rec => step4 N a0 rec) N
noncomputable def m (N : Nat) (a0 : Int) : Option R :=
  bif (decide (a0 ≤ (0:Int))) then
    some (⟨#[109, 48]⟩ : ByteArray)
  else
  lp4 N a0 (a0, ByteArray.empty)
@[reducible] noncomputable def sp (N : Nat) : Spec E := { ps := [.val (.int .i64)], rs := [.str], own := true, dp := false, R := R, fn := fun x => m N x.1, res := fun r => (r, ()), out := fun r => ((), ()), shut := fun a b => a.1, res_shut := fun _ _ => rfl, out_shut := fun _ _ => rfl }
end laws_markText
/-! ### laws_markStringS: loop.example/g00220/laws.markStringS -/
namespace laws_markStringS
abbrev R := Int × (List ByteArray)
noncomputable def step2 (N : Nat) (a0 : List ByteArray) (a1 : Int) (rec : (Int × Int × (List ByteArray)) → Option R) : (Int × Int × (List ByteArray)) → Option R
  | (v0, v1, v2) =>
    bif (decide (v1 < (v2.length : Int))) then
      ob (laws_markText.m N v0) fun y1 =>
      bif (decide (0 ≤ v1)) then
      bif (decide (v1 < (v2.length : Int))) then
      rec ((w64 (v0 + (1:Int))), (w64 (v1 + (1:Int))), (v2.set (Int.toNat v1) y1))
      else none
      else none
    else
    some (v0, v2)
noncomputable def lp2 (N : Nat) (a0 : List ByteArray) (a1 : Int) : (Int × Int × (List ByteArray)) → Option R :=
  miter (fun rec => step2 N a0 a1 rec) N
noncomputable def m (N : Nat) (a0 : List ByteArray) (a1 : Int) : Option R :=
  lp2 N a0 a1 (a1, (0:Int), a0)
@[reducible] noncomputable def sp (N : Nat) : Spec E := { ps := [.mut false (.slice 9 .str), .val (.int .i64)], rs := [(.int .i64)], own := true, dp := false, R := R, fn := fun x => m N x.1 x.2.1, res := fun r => (r.1, ()), out := fun r => (r.2, (), ()), shut := fun a b => (a.1, b.1), res_shut := fun _ _ => rfl, out_shut := fun _ _ => rfl }
end laws_markStringS
/-! ### laws_markBranchS: loop.example/g00220/laws.markBranchS -/
namespace laws_markBranchS
abbrev R := Int × (List Branch)
@[reducible] noncomputable def spf (f : (List Branch) → Int → Option R) : Spec E := { ps := [.mut true (.slice 27 (.st 27)), .val (.int .i64)], rs := [(.int .i64)], own := true, dp := true, R := R, fn := fun x => f x.1 x.2.1, res := fun r => (r.1, ()), out := fun r => (r.2, (), ()), shut := fun a b => (a.1, b.1), res_shut := fun _ _ => rfl, out_shut := fun _ _ => rfl }
end laws_markBranchS
namespace laws_markBranchS
noncomputable def step2 (N : Nat) (slf : (List Branch) → Int → Option R) (a0 : List Branch) (a1 : Int) (rec : (Int × Int × (List Branch)) → Option R) : (Int × Int × (List Branch)) → Option R
  | (v0, v1, v2) =>
    bif (decide (v1 < (v2.length : Int))) then
      ob (laws_markText.m N v0) fun y1 =>
      bif (decide (0 ≤ v1)) then
      bif (decide (v1 < (v2.length : Int))) then
      (let w2 : List Branch := (v2.set (Int.toNat v1) (Branch.mk y1 ((v2.getD (Int.toNat v1) Branch.dz).Value) ((v2.getD (Int.toNat v1) Branch.dz).At) ((v2.getD (Int.toNat v1) Branch.dz).Kids)))
      ob (laws_markText.m N (w64 (v0 + (1:Int)))) fun y3 =>
      bif (decide (0 ≤ v1)) then
      bif (decide (v1 < (w2.length : Int))) then
      (let w4 : List Branch := (w2.set (Int.toNat v1) (Branch.mk ((w2.getD (Int.toNat v1) Branch.dz).Key) y3 ((w2.getD (Int.toNat v1) Branch.dz).At) ((w2.getD (Int.toNat v1) Branch.dz).Kids)))
      bif (decide (0 ≤ v1)) then
      bif (decide (v1 < (w4.length : Int))) then
      (let w5 : List Branch := (w4.set (Int.toNat v1) (Branch.mk ((w4.getD (Int.toNat v1) Branch.dz).Key) ((w4.getD (Int.toNat v1) Branch.dz).Value) (w64 ((w64 (v0 + (1:Int))) + (1:Int))) ((w4.getD (Int.toNat v1) Branch.dz).Kids)))
      bif (decide (0 ≤ v1)) then
      bif (decide (v1 < (w5.length : Int))) then
      bif (decide ((Int.toNat v1) < w5.length)) then
      ob (slf ((w5.getD (Int.toNat v1) Branch.dz).Kids) (w64 ((w64 ((w64 (v0 + (1:Int))) + (1:Int))) + (1:Int)))) fun y6 =>
      (let w7 : List Branch := (w5.set (Int.toNat v1) (Branch.mk ((w5.getD (Int.toNat v1) Branch.dz).Key) ((w5.getD (Int.toNat v1) Branch.dz).Value) ((w5.getD (Int.toNat v1) Branch.dz).At) y6.2))
      rec (y6.1, (w64 (v1 + (1:Int))), w7))
      else none
      else none
      else none)
      else none
      else none)
      else none
      else none)
      else none
      else none
    else
    some (v0, v2)
noncomputable def lp2 (N : Nat) (slf : (List Branch) → Int → Option R) (a0 : List Branch) (a1 : Int) : (Int × Int × (List Branch)) → Option R :=
  miter (fun rec => step2 N slf a0 a1 rec) N
noncomputable def mb (N : Nat) (slf : (List Branch) → Int → Option R) (a0 : List Branch) (a1 : Int) : Option R :=
  lp2 N slf a0 a1 (a1, (0:Int), a0)
noncomputable def mF (N : Nat) : Nat → (List Branch) → Int → Option R
  | 0 => fun _ _ => none
  | n + 1 => fun a0 a1 => mb N (mF N n) a0 a1
noncomputable def m (N : Nat) : (List Branch) → Int → Option R := mF N N
@[reducible] noncomputable def sp (N : Nat) : Spec E := spf (m N)
end laws_markBranchS
/-! ### laws_markBranch: loop.example/g00220/laws.markBranch -/
namespace laws_markBranch
abbrev R := Int × Branch
noncomputable def m (N : Nat) (a0 : Branch) (a1 : Int) : Option R :=
  ob (laws_markBranchS.m N a0.Kids a1) fun y1 =>
  some (y1.1, (Branch.mk a0.Key a0.Value a0.At y1.2))
@[reducible] noncomputable def sp (N : Nat) : Spec E := { ps := [.mut true (.st 27), .val (.int .i64)], rs := [(.int .i64)], own := true, dp := true, R := R, fn := fun x => m N x.1 x.2.1, res := fun r => (r.1, ()), out := fun r => (r.2, (), ()), shut := fun a b => (a.1, b.1), res_shut := fun _ _ => rfl, out_shut := fun _ _ => rfl }
end laws_markBranch
/-! ### laws_markSessionS: loop.example/g00220/laws.markSessionS -/
namespace laws_markSessionS
abbrev R := Int × (List Session)
noncomputable def step2 (N : Nat) (a0 : List Session) (a1 : Int) (rec : (Int × Int × (List Session)) → Option R) : (Int × Int × (List Session)) → Option R
  | (v0, v1, v2) =>
    bif (decide (v1 < (v2.length : Int))) then
      bif (decide (0 ≤ v1)) then
      bif (decide (v1 < (v2.length : Int))) then
      (let w1 : List Session := (v2.set (Int.toNat v1) (Session.mk v0 ((v2.getD (Int.toNat v1) Session.dz).Seq) (Reply.mk ((v2.getD (Int.toNat v1) Session.dz).Last.Kind) ((v2.getD (Int.toNat v1) Session.dz).Last.Place) ((v2.getD (Int.toNat v1) Session.dz).Last.Value))))
      bif (decide (0 ≤ v1)) then
      bif (decide (v1 < (w1.length : Int))) then
      (let w2 : List Session := (w1.set (Int.toNat v1) (Session.mk ((w1.getD (Int.toNat v1) Session.dz).Id) (w64 (v0 + (1:Int))) (Reply.mk ((w1.getD (Int.toNat v1) Session.dz).Last.Kind) ((w1.getD (Int.toNat v1) Session.dz).Last.Place) ((w1.getD (Int.toNat v1) Session.dz).Last.Value))))
      bif (decide (0 ≤ v1)) then
      bif (decide (v1 < (w2.length : Int))) then
      (let w3 : List Session := (w2.set (Int.toNat v1) (Session.mk ((w2.getD (Int.toNat v1) Session.dz).Id) ((w2.getD (Int.toNat v1) Session.dz).Seq) (Reply.mk (w64 ((w64 (v0 + (1:Int))) + (1:Int))) ((w2.getD (Int.toNat v1) Session.dz).Last.Place) ((w2.getD (Int.toNat v1) Session.dz).Last.Value))))
      bif (decide (0 ≤ v1)) then
      bif (decide (v1 < (w3.length : Int))) then
      (let w4 : List Session := (w3.set (Int.toNat v1) (Session.mk ((w3.getD (Int.toNat v1) Session.dz).Id) ((w3.getD (Int.toNat v1) Session.dz).Seq) (Reply.mk ((w3.getD (Int.toNat v1) Session.dz).Last.Kind) (w64 ((w64 ((w64 (v0 + (1:Int))) + (1:Int))) + (1:Int))) ((w3.getD (Int.toNat v1) Session.dz).Last.Value))))
      ob (laws_markText.m N (w64 ((w64 ((w64 ((w64 (v0 + (1:Int))) + (1:Int))) + (1:Int))) + (1:Int)))) fun y5 =>
      bif (decide (0 ≤ v1)) then
      bif (decide (v1 < (w4.length : Int))) then
      (let w6 : List Session := (w4.set (Int.toNat v1) (Session.mk ((w4.getD (Int.toNat v1) Session.dz).Id) ((w4.getD (Int.toNat v1) Session.dz).Seq) (Reply.mk ((w4.getD (Int.toNat v1) Session.dz).Last.Kind) ((w4.getD (Int.toNat v1) Session.dz).Last.Place) y5)))
      rec ((w64 ((w64 ((w64 ((w64 ((w64 (v0 + (1:Int))) + (1:Int))) + (1:Int))) + (1:Int))) + (1:Int))), (w64 (v1 + (1:Int))), w6))
      else none
      else none)
      else none
      else none)
      else none
      else none)
      else none
      else none)
      else none
      else none
    else
    some (v0, v2)
noncomputable def lp2 (N : Nat) (a0 : List Session) (a1 : Int) : (Int × Int × (List Session)) → Option R :=
  miter (fun rec => step2 N a0 a1 rec) N
noncomputable def m (N : Nat) (a0 : List Session) (a1 : Int) : Option R :=
  lp2 N a0 a1 (a1, (0:Int), a0)
@[reducible] noncomputable def sp (N : Nat) : Spec E := { ps := [.mut false (.slice 131 (.st 131)), .val (.int .i64)], rs := [(.int .i64)], own := true, dp := false, R := R, fn := fun x => m N x.1 x.2.1, res := fun r => (r.1, ()), out := fun r => (r.2, (), ()), shut := fun a b => (a.1, b.1), res_shut := fun _ _ => rfl, out_shut := fun _ _ => rfl }
end laws_markSessionS
/-! ### laws_markLedger: loop.example/g00220/laws.markLedger -/
namespace laws_markLedger
abbrev R := Int × Ledger
noncomputable def m (N : Nat) (a0 : Ledger) (a1 : Int) : Option R :=
  ob (laws_markStringS.m N a0.Leaves a1) fun y1 =>
  ob (laws_markBranch.m N (Branch.mk a0.Map.Key a0.Map.Value a0.Map.At a0.Map.Kids) y1.1) fun y2 =>
  ob (laws_markSessionS.m N a0.Sessions y2.1) fun y3 =>
  some (y3.1, (Ledger.mk y1.2 (Branch.mk a0.Map.Key a0.Map.Value a0.Map.At y2.2.Kids) y3.2))
@[reducible] noncomputable def sp (N : Nat) : Spec E := { ps := [.mut true (.st 30), .val (.int .i64)], rs := [(.int .i64)], own := true, dp := true, R := R, fn := fun x => m N x.1 x.2.1, res := fun r => (r.1, ()), out := fun r => (r.2, (), ()), shut := fun a b => (a.1, b.1), res_shut := fun _ _ => rfl, out_shut := fun _ _ => rfl }
end laws_markLedger
/-! ### laws_markByteS: loop.example/g00220/laws.markByteS -/
namespace laws_markByteS
abbrev R := Int × (List Int)
noncomputable def step2 (N : Nat) (a0 : List Int) (a1 : Int) (rec : (Int × Int × (List Int)) → Option R) : (Int × Int × (List Int)) → Option R
  | (v0, v1, v2) =>
    bif (decide (v1 < (v2.length : Int))) then
      bif (decide (0 ≤ v1)) then
      bif (decide (v1 < (v2.length : Int))) then
      rec ((w64 (v0 + (1:Int))), (w64 (v1 + (1:Int))), (v2.set (Int.toNat v1) (wu8 v0)))
      else none
      else none
    else
    some (v0, v2)
noncomputable def lp2 (N : Nat) (a0 : List Int) (a1 : Int) : (Int × Int × (List Int)) → Option R :=
  miter (fun rec => step2 N a0 a1 rec) N
noncomputable def m (N : Nat) (a0 : List Int) (a1 : Int) : Option R :=
  lp2 N a0 a1 (a1, (0:Int), a0)
@[reducible] noncomputable def sp (N : Nat) : Spec E := { ps := [.mut false (.slice 5 (.int .u8)), .val (.int .i64)], rs := [(.int .i64)], own := true, dp := false, R := R, fn := fun x => m N x.1 x.2.1, res := fun r => (r.1, ()), out := fun r => (r.2, (), ()), shut := fun a b => (a.1, b.1), res_shut := fun _ _ => rfl, out_shut := fun _ _ => rfl }
end laws_markByteS
/-! ### laws_heldByteS: loop.example/g00220/laws.heldByteS -/
namespace laws_heldByteS
abbrev R := Int
noncomputable def step2 (N : Nat) (a0 : List Int) (a1 : Int) (rec : (Int × Int) → Option R) : (Int × Int) → Option R
  | (v1, v2) =>
    bif (decide (v2 < (a0.length : Int))) then
      bif (decide (0 ≤ v2)) then
      bif (decide (v2 < (a0.length : Int))) then
      bif ((a0.getD (Int.toNat v2) (0:Int)) != (wu8 v1)) then
        some (-1:Int)
      else
      rec ((w64 (v1 + (1:Int))), (w64 (v2 + (1:Int))))
      else none
      else none
    else
    some v1
noncomputable def lp2 (N : Nat) (a0 : List Int) (a1 : Int) : (Int × Int) → Option R :=
  miter (fun rec => step2 N a0 a1 rec) N
noncomputable def m (N : Nat) (a0 : List Int) (a1 : Int) : Option R :=
  lp2 N a0 a1 (a1, (0:Int))
@[reducible] noncomputable def sp (N : Nat) : Spec E := { ps := [.val (.slice 5 (.int .u8)), .val (.int .i64)], rs := [(.int .i64)], own := true, dp := false, R := R, fn := fun x => m N x.1 x.2.1, res := fun r => (r, ()), out := fun r => ((), (), ()), shut := fun a b => a.1, res_shut := fun _ _ => rfl, out_shut := fun _ _ => rfl }
end laws_heldByteS
/-! ### laws_FnExactSnapshotBytes: loop.example/g00220/laws.FnExactSnapshotBytes -/
namespace laws_FnExactSnapshotBytes
abbrev R := Bool
noncomputable def m (N : Nat) (a0 : Ledger) : Option R :=
  ob (laws_szLedger.m N (Ledger.mk a0.Leaves (Branch.mk a0.Map.Key a0.Map.Value a0.Map.At a0.Map.Kids) a0.Sessions) (1048576:Int)) fun y1 =>
  bif (decide (y1 < (0:Int))) then
    some true
  else
  ob (laws_toLedger.m N (Ledger.mk a0.Leaves (Branch.mk a0.Map.Key a0.Map.Value a0.Map.At a0.Map.Kids) a0.Sessions)) fun y2 =>
  ob (spec_SnapshotBytes.m N (Ledger.mk y2.Leaves (Branch.mk y2.Map.Key y2.Map.Value y2.Map.At y2.Map.Kids) y2.Sessions)) fun y3 =>
  ob (laws_toLedger.m N (Ledger.mk a0.Leaves (Branch.mk a0.Map.Key a0.Map.Value a0.Map.At a0.Map.Kids) a0.Sessions)) fun y4 =>
  ob (impl_SnapshotBytes.m N (Ledger.mk y4.Leaves (Branch.mk y4.Map.Key y4.Map.Value y4.Map.At y4.Map.Kids) y4.Sessions)) fun y5 =>
  ob (laws_eqByteS.m N y5.1 y3.1) fun y6 =>
  bif (!y6) then
    some false
  else
  bif (bif false then true else (y5.2 != y3.2)) then
    some false
  else
  ob (laws_toLedger.m N (Ledger.mk a0.Leaves (Branch.mk a0.Map.Key a0.Map.Value a0.Map.At a0.Map.Kids) a0.Sessions)) fun y7 =>
  ob (laws_eqLedger.m N (Ledger.mk y4.Leaves (Branch.mk y4.Map.Key y4.Map.Value y4.Map.At y4.Map.Kids) y4.Sessions) (Ledger.mk y7.Leaves (Branch.mk y7.Map.Key y7.Map.Value y7.Map.At y7.Map.Kids) y7.Sessions)) fun y8 =>
  bif (!y8) then
    some false
  else
  ob (laws_markLedger.m N (Ledger.mk y4.Leaves (Branch.mk y4.Map.Key y4.Map.Value y4.Map.At y4.Map.Kids) y4.Sessions) (1:Int)) fun y9 =>
  bif (decide (y9.1 < (0:Int))) then
    some false
  else
  ob (laws_eqByteS.m N y5.1 y3.1) fun y10 =>
  bif (bif false then true else (!y10)) then
    some false
  else
  bif (bif false then true else (y5.2 != y3.2)) then
    some false
  else
  ob (laws_markByteS.m N y5.1 (1:Int)) fun y11 =>
  ob (laws_heldByteS.m N y11.2 (1:Int)) fun y12 =>
  bif (decide (y12 < (0:Int))) then
    some false
  else
  bif (y12 != y11.1) then
    some false
  else
  ob (laws_toLedger.m N (Ledger.mk a0.Leaves (Branch.mk a0.Map.Key a0.Map.Value a0.Map.At a0.Map.Kids) a0.Sessions)) fun y13 =>
  ob (impl_SnapshotBytes.m N (Ledger.mk y13.Leaves (Branch.mk y13.Map.Key y13.Map.Value y13.Map.At y13.Map.Kids) y13.Sessions)) fun y14 =>
  ob (laws_eqByteS.m N y14.1 y3.1) fun y15 =>
  bif (!y15) then
    some false
  else
  bif (bif false then true else (y14.2 != y3.2)) then
    some false
  else
  ob (laws_heldByteS.m N y11.2 (1:Int)) fun y16 =>
  bif (decide (y16 < (0:Int))) then
    some false
  else
  bif (y16 != y11.1) then
    some false
  else
  some true
@[reducible] noncomputable def sp (N : Nat) : Spec E := { ps := [.val (.st 48)], rs := [.bool], own := true, dp := false, R := R, fn := fun x => m N x.1, res := fun r => (r, ()), out := fun r => ((), ()), shut := fun a b => a.1, res_shut := fun _ _ => rfl, out_shut := fun _ _ => rfl }
end laws_FnExactSnapshotBytes
end Mir.Y
