/- Models of functions. -/
import Derived.Test.YtmjmhkpkmejbnaaGreatQLM4
namespace Mir.Y
set_option linter.unusedVariables false
set_option maxRecDepth 10000
open Go Go.Proofs Mir
set_option linter.unusedSectionVars false
variable [UU]
namespace laws_FnLedger
abbrev R:=Bool
inductive A12 where
  | s0 (v0:Int) (v1:Int) (v2:List Command) (v3:ByteArray) (v4:ByteArray) (v5:Int) (v6:List ByteArray) (v7:List Branch) (v8:List Session) (v9:List Reply) (v10:List Reply) (v11:ByteArray) (v12:ByteArray) (v13:Int)
  | s1 (v0:Int) (v1:Int) (v2:List Command) (v3:ByteArray) (v4:ByteArray) (v5:Int) (v6:List ByteArray) (v7:List Branch) (v8:List Session) (v9:List Reply) (v10:List Reply) (v11:ByteArray) (v12:ByteArray) (v13:Int) (v14:List ByteArray) (v15:List Branch) (v16:List Session)
  | s2 (v0:Int) (v1:Int) (v2:List Command) (v3:ByteArray) (v4:ByteArray) (v5:Int) (v6:List ByteArray) (v7:List Branch) (v8:List Session) (v9:List Reply) (v10:List Reply) (v11:ByteArray) (v12:ByteArray) (v13:Int) (v14:List ByteArray) (v15:List Branch) (v16:List Session)
noncomputable def step12 (N:Nat) (a0:List Int) (rec:A12→Option R):A12→Option R
  | .s0 v0 v1 v2 v3 v4 v5 v6 v7 v8 v9 v10 v11 v12 v13=>
    bif (decide (v1<(v2.length:Int))) then
      bif (decide (0≤v1)) then
      bif (decide (v1<(v9.length:Int))) then
      bif (decide (0≤v1)) then
      bif (decide (v1<(v10.length:Int))) then
      (let w6:Bool:=(!(((v9.getD (Int.toNat v1) Reply.dz).Kind==(v10.getD (Int.toNat v1) Reply.dz).Kind)&&(((v9.getD (Int.toNat v1) Reply.dz).Place==(v10.getD (Int.toNat v1) Reply.dz).Place)&&(seq ((v9.getD (Int.toNat v1) Reply.dz).Value) ((v10.getD (Int.toNat v1) Reply.dz).Value)))))
      bif w6 then
        some false
      else
      bif (decide (0≤v1)) then
      bif (decide (v1<(v2.length:Int))) then
      ob (impl_Apply.m N (Ledger.mk ([]:List ByteArray) (Branch.mk v11 v12 v13 ([]:List Branch)) ([]:List Session)) (v2.getD (Int.toNat v1) Command.dz)) fun y7=>
      bif (y7.2.2 != (0:Int)) then
        some false
      else
      bif (decide (0≤v1)) then
      bif (decide (v1<(v9.length:Int))) then
      (let w8:Bool:=(!((y7.2.1.Kind==(v9.getD (Int.toNat v1) Reply.dz).Kind)&&((y7.2.1.Place==(v9.getD (Int.toNat v1) Reply.dz).Place)&&(seq y7.2.1.Value ((v9.getD (Int.toNat v1) Reply.dz).Value)))))
      bif (bif false then true else w8) then
        some false
      else
      bif (decide ((y7.1.Leaves.length:Int) > (0:Int))) then
        bif (y7.2.1.Kind != (1:Int)) then
          some false
        else
        bif (bif false then true else (y7.2.1.Place != (w64 (v0+(1:Int))))) then
          some false
        else
        bif ((y7.1.Leaves.length:Int) != (w64 (v0+(1:Int)))) then
          some false
        else
        bif (decide (0≤v1)) then
        bif (decide (v1<(v2.length:Int))) then
        bif (decide ((v2.getD (Int.toNat v1) Command.dz).Kind<(4:Int))) then
          bif (y7.2.1.Kind==(1:Int)) then
            bif (bif true then true else false) then
              bif (decide (0≤v1)) then
              bif (decide (v1<(v2.length:Int))) then
              ob (impl_Apply.m N (Ledger.mk y7.1.Leaves (Branch.mk y7.1.Map.Key y7.1.Map.Value y7.1.Map.At y7.1.Map.Kids) y7.1.Sessions) (v2.getD (Int.toNat v1) Command.dz)) fun y9=>
              ob (impl_SameLedger.m N (Ledger.mk y7.1.Leaves (Branch.mk y7.1.Map.Key y7.1.Map.Value y7.1.Map.At y7.1.Map.Kids) y7.1.Sessions) (Ledger.mk y9.1.Leaves (Branch.mk y9.1.Map.Key y9.1.Map.Value y9.1.Map.At y9.1.Map.Kids) y9.1.Sessions)) fun y10=>
              bif (y9.2.2 != (0:Int)) then
                some false
              else
              bif (bif false then true else (!((y9.2.1.Kind==y7.2.1.Kind)&&((y9.2.1.Place==y7.2.1.Place)&&(seq y9.2.1.Value y7.2.1.Value))))) then
                some false
              else
              bif (bif false then true else (y10.2 != (0:Int))) then
                some false
              else
              bif (bif false then true else (!y10.1)) then
                some false
              else
              rec (.s1 (w64 (v0+(1:Int))) (w64 (v1+(1:Int))) v2 v3 v4 v5 v6 v7 v8 v9 v10 y7.1.Map.Key y7.1.Map.Value y7.1.Map.At y7.1.Leaves y7.1.Map.Kids y7.1.Sessions)
              else none
              else none
            else
            rec (.s2 (w64 (v0+(1:Int))) (w64 (v1+(1:Int))) v2 v3 v4 v5 v6 v7 v8 v9 v10 y7.1.Map.Key y7.1.Map.Value y7.1.Map.At y7.1.Leaves y7.1.Map.Kids y7.1.Sessions)
          else
          bif (bif false then true else (y7.2.1.Kind==(2:Int))) then
            bif (bif true then true else false) then
              bif (decide (0≤v1)) then
              bif (decide (v1<(v2.length:Int))) then
              ob (impl_Apply.m N (Ledger.mk y7.1.Leaves (Branch.mk y7.1.Map.Key y7.1.Map.Value y7.1.Map.At y7.1.Map.Kids) y7.1.Sessions) (v2.getD (Int.toNat v1) Command.dz)) fun y11=>
              ob (impl_SameLedger.m N (Ledger.mk y7.1.Leaves (Branch.mk y7.1.Map.Key y7.1.Map.Value y7.1.Map.At y7.1.Map.Kids) y7.1.Sessions) (Ledger.mk y11.1.Leaves (Branch.mk y11.1.Map.Key y11.1.Map.Value y11.1.Map.At y11.1.Map.Kids) y11.1.Sessions)) fun y12=>
              bif (y11.2.2 != (0:Int)) then
                some false
              else
              bif (bif false then true else (!((y11.2.1.Kind==y7.2.1.Kind)&&((y11.2.1.Place==y7.2.1.Place)&&(seq y11.2.1.Value y7.2.1.Value))))) then
                some false
              else
              bif (bif false then true else (y12.2 != (0:Int))) then
                some false
              else
              bif (bif false then true else (!y12.1)) then
                some false
              else
              rec (.s1 (w64 (v0+(1:Int))) (w64 (v1+(1:Int))) v2 v3 v4 v5 v6 v7 v8 v9 v10 y7.1.Map.Key y7.1.Map.Value y7.1.Map.At y7.1.Leaves y7.1.Map.Kids y7.1.Sessions)
              else none
              else none
            else
            rec (.s2 (w64 (v0+(1:Int))) (w64 (v1+(1:Int))) v2 v3 v4 v5 v6 v7 v8 v9 v10 y7.1.Map.Key y7.1.Map.Value y7.1.Map.At y7.1.Leaves y7.1.Map.Kids y7.1.Sessions)
          else
          bif (bif true then (bif false then true else (y7.2.1.Kind==(6:Int))) else false) then
            bif (decide (0≤v1)) then
            bif (decide (v1<(v2.length:Int))) then
            ob (impl_Apply.m N (Ledger.mk y7.1.Leaves (Branch.mk y7.1.Map.Key y7.1.Map.Value y7.1.Map.At y7.1.Map.Kids) y7.1.Sessions) (v2.getD (Int.toNat v1) Command.dz)) fun y13=>
            ob (impl_SameLedger.m N (Ledger.mk y7.1.Leaves (Branch.mk y7.1.Map.Key y7.1.Map.Value y7.1.Map.At y7.1.Map.Kids) y7.1.Sessions) (Ledger.mk y13.1.Leaves (Branch.mk y13.1.Map.Key y13.1.Map.Value y13.1.Map.At y13.1.Map.Kids) y13.1.Sessions)) fun y14=>
            bif (y13.2.2 != (0:Int)) then
              some false
            else
            bif (bif false then true else (!((y13.2.1.Kind==y7.2.1.Kind)&&((y13.2.1.Place==y7.2.1.Place)&&(seq y13.2.1.Value y7.2.1.Value))))) then
              some false
            else
            bif (bif false then true else (y14.2 != (0:Int))) then
              some false
            else
            bif (bif false then true else (!y14.1)) then
              some false
            else
            rec (.s1 (w64 (v0+(1:Int))) (w64 (v1+(1:Int))) v2 v3 v4 v5 v6 v7 v8 v9 v10 y7.1.Map.Key y7.1.Map.Value y7.1.Map.At y7.1.Leaves y7.1.Map.Kids y7.1.Sessions)
            else none
            else none
          else
          rec (.s2 (w64 (v0+(1:Int))) (w64 (v1+(1:Int))) v2 v3 v4 v5 v6 v7 v8 v9 v10 y7.1.Map.Key y7.1.Map.Value y7.1.Map.At y7.1.Leaves y7.1.Map.Kids y7.1.Sessions)
        else
        rec (.s2 (w64 (v0+(1:Int))) (w64 (v1+(1:Int))) v2 v3 v4 v5 v6 v7 v8 v9 v10 y7.1.Map.Key y7.1.Map.Value y7.1.Map.At y7.1.Leaves y7.1.Map.Kids y7.1.Sessions)
        else none
        else none
      else
      bif ((y7.1.Leaves.length:Int) != v0) then
        some false
      else
      bif (decide (0≤v1)) then
      bif (decide (v1<(v2.length:Int))) then
      bif (decide ((v2.getD (Int.toNat v1) Command.dz).Kind<(4:Int))) then
        bif (y7.2.1.Kind==(1:Int)) then
          bif (bif true then true else false) then
            bif (decide (0≤v1)) then
            bif (decide (v1<(v2.length:Int))) then
            ob (impl_Apply.m N (Ledger.mk y7.1.Leaves (Branch.mk y7.1.Map.Key y7.1.Map.Value y7.1.Map.At y7.1.Map.Kids) y7.1.Sessions) (v2.getD (Int.toNat v1) Command.dz)) fun y15=>
            ob (impl_SameLedger.m N (Ledger.mk y7.1.Leaves (Branch.mk y7.1.Map.Key y7.1.Map.Value y7.1.Map.At y7.1.Map.Kids) y7.1.Sessions) (Ledger.mk y15.1.Leaves (Branch.mk y15.1.Map.Key y15.1.Map.Value y15.1.Map.At y15.1.Map.Kids) y15.1.Sessions)) fun y16=>
            bif (y15.2.2 != (0:Int)) then
              some false
            else
            bif (bif false then true else (!((y15.2.1.Kind==y7.2.1.Kind)&&((y15.2.1.Place==y7.2.1.Place)&&(seq y15.2.1.Value y7.2.1.Value))))) then
              some false
            else
            bif (bif false then true else (y16.2 != (0:Int))) then
              some false
            else
            bif (bif false then true else (!y16.1)) then
              some false
            else
            rec (.s1 v0 (w64 (v1+(1:Int))) v2 v3 v4 v5 v6 v7 v8 v9 v10 y7.1.Map.Key y7.1.Map.Value y7.1.Map.At y7.1.Leaves y7.1.Map.Kids y7.1.Sessions)
            else none
            else none
          else
          rec (.s2 v0 (w64 (v1+(1:Int))) v2 v3 v4 v5 v6 v7 v8 v9 v10 y7.1.Map.Key y7.1.Map.Value y7.1.Map.At y7.1.Leaves y7.1.Map.Kids y7.1.Sessions)
        else
        bif (bif false then true else (y7.2.1.Kind==(2:Int))) then
          bif (bif true then true else false) then
            bif (decide (0≤v1)) then
            bif (decide (v1<(v2.length:Int))) then
            ob (impl_Apply.m N (Ledger.mk y7.1.Leaves (Branch.mk y7.1.Map.Key y7.1.Map.Value y7.1.Map.At y7.1.Map.Kids) y7.1.Sessions) (v2.getD (Int.toNat v1) Command.dz)) fun y17=>
            ob (impl_SameLedger.m N (Ledger.mk y7.1.Leaves (Branch.mk y7.1.Map.Key y7.1.Map.Value y7.1.Map.At y7.1.Map.Kids) y7.1.Sessions) (Ledger.mk y17.1.Leaves (Branch.mk y17.1.Map.Key y17.1.Map.Value y17.1.Map.At y17.1.Map.Kids) y17.1.Sessions)) fun y18=>
            bif (y17.2.2 != (0:Int)) then
              some false
            else
            bif (bif false then true else (!((y17.2.1.Kind==y7.2.1.Kind)&&((y17.2.1.Place==y7.2.1.Place)&&(seq y17.2.1.Value y7.2.1.Value))))) then
              some false
            else
            bif (bif false then true else (y18.2 != (0:Int))) then
              some false
            else
            bif (bif false then true else (!y18.1)) then
              some false
            else
            rec (.s1 v0 (w64 (v1+(1:Int))) v2 v3 v4 v5 v6 v7 v8 v9 v10 y7.1.Map.Key y7.1.Map.Value y7.1.Map.At y7.1.Leaves y7.1.Map.Kids y7.1.Sessions)
            else none
            else none
          else
          rec (.s2 v0 (w64 (v1+(1:Int))) v2 v3 v4 v5 v6 v7 v8 v9 v10 y7.1.Map.Key y7.1.Map.Value y7.1.Map.At y7.1.Leaves y7.1.Map.Kids y7.1.Sessions)
        else
        bif (bif true then (bif false then true else (y7.2.1.Kind==(6:Int))) else false) then
          bif (decide (0≤v1)) then
          bif (decide (v1<(v2.length:Int))) then
          ob (impl_Apply.m N (Ledger.mk y7.1.Leaves (Branch.mk y7.1.Map.Key y7.1.Map.Value y7.1.Map.At y7.1.Map.Kids) y7.1.Sessions) (v2.getD (Int.toNat v1) Command.dz)) fun y19=>
          ob (impl_SameLedger.m N (Ledger.mk y7.1.Leaves (Branch.mk y7.1.Map.Key y7.1.Map.Value y7.1.Map.At y7.1.Map.Kids) y7.1.Sessions) (Ledger.mk y19.1.Leaves (Branch.mk y19.1.Map.Key y19.1.Map.Value y19.1.Map.At y19.1.Map.Kids) y19.1.Sessions)) fun y20=>
          bif (y19.2.2 != (0:Int)) then
            some false
          else
          bif (bif false then true else (!((y19.2.1.Kind==y7.2.1.Kind)&&((y19.2.1.Place==y7.2.1.Place)&&(seq y19.2.1.Value y7.2.1.Value))))) then
            some false
          else
          bif (bif false then true else (y20.2 != (0:Int))) then
            some false
          else
          bif (bif false then true else (!y20.1)) then
            some false
          else
          rec (.s1 v0 (w64 (v1+(1:Int))) v2 v3 v4 v5 v6 v7 v8 v9 v10 y7.1.Map.Key y7.1.Map.Value y7.1.Map.At y7.1.Leaves y7.1.Map.Kids y7.1.Sessions)
          else none
          else none
        else
        rec (.s2 v0 (w64 (v1+(1:Int))) v2 v3 v4 v5 v6 v7 v8 v9 v10 y7.1.Map.Key y7.1.Map.Value y7.1.Map.At y7.1.Leaves y7.1.Map.Kids y7.1.Sessions)
      else
      rec (.s2 v0 (w64 (v1+(1:Int))) v2 v3 v4 v5 v6 v7 v8 v9 v10 y7.1.Map.Key y7.1.Map.Value y7.1.Map.At y7.1.Leaves y7.1.Map.Kids y7.1.Sessions)
      else none
      else none)
      else none
      else none
      else none
      else none)
      else none
      else none
      else none
      else none
    else
    ob (impl_LedgerRoot.m N (Ledger.mk ([]:List ByteArray) (Branch.mk v11 v12 v13 ([]:List Branch)) ([]:List Session))) fun y21=>
    ob (impl_LedgerRoot.m N (Ledger.mk v6 (Branch.mk v3 v4 v5 v7) v8)) fun y22=>
    bif (y21.2==(0:Int)) then
      bif (bif true then (y22.2==(0:Int)) else false) then
        some (bif true then (seq y21.1 y22.1) else false)
      else
      some false
    else
    some false
  | .s1 v0 v1 v2 v3 v4 v5 v6 v7 v8 v9 v10 v11 v12 v13 v14 v15 v16=>
    bif (decide (v1<(v2.length:Int))) then
      bif (decide (0≤v1)) then
      bif (decide (v1<(v9.length:Int))) then
      bif (decide (0≤v1)) then
      bif (decide (v1<(v10.length:Int))) then
      (let w23:Bool:=(!(((v9.getD (Int.toNat v1) Reply.dz).Kind==(v10.getD (Int.toNat v1) Reply.dz).Kind)&&(((v9.getD (Int.toNat v1) Reply.dz).Place==(v10.getD (Int.toNat v1) Reply.dz).Place)&&(seq ((v9.getD (Int.toNat v1) Reply.dz).Value) ((v10.getD (Int.toNat v1) Reply.dz).Value)))))
      bif w23 then
        some false
      else
      bif (decide (0≤v1)) then
      bif (decide (v1<(v2.length:Int))) then
      ob (impl_Apply.m N (Ledger.mk v14 (Branch.mk v11 v12 v13 v15) v16) (v2.getD (Int.toNat v1) Command.dz)) fun y24=>
      bif (y24.2.2 != (0:Int)) then
        some false
      else
      bif (decide (0≤v1)) then
      bif (decide (v1<(v9.length:Int))) then
      (let w25:Bool:=(!((y24.2.1.Kind==(v9.getD (Int.toNat v1) Reply.dz).Kind)&&((y24.2.1.Place==(v9.getD (Int.toNat v1) Reply.dz).Place)&&(seq y24.2.1.Value ((v9.getD (Int.toNat v1) Reply.dz).Value)))))
      bif (bif false then true else w25) then
        some false
      else
      bif (decide ((y24.1.Leaves.length:Int) > (v14.length:Int))) then
        bif (y24.2.1.Kind != (1:Int)) then
          some false
        else
        bif (bif false then true else (y24.2.1.Place != (w64 (v0+(1:Int))))) then
          some false
        else
        bif ((y24.1.Leaves.length:Int) != (w64 (v0+(1:Int)))) then
          some false
        else
        bif (decide (0≤v1)) then
        bif (decide (v1<(v2.length:Int))) then
        bif (decide ((v2.getD (Int.toNat v1) Command.dz).Kind<(4:Int))) then
          bif (y24.2.1.Kind==(1:Int)) then
            bif (bif true then true else false) then
              bif (decide (0≤v1)) then
              bif (decide (v1<(v2.length:Int))) then
              ob (impl_Apply.m N (Ledger.mk y24.1.Leaves (Branch.mk y24.1.Map.Key y24.1.Map.Value y24.1.Map.At y24.1.Map.Kids) y24.1.Sessions) (v2.getD (Int.toNat v1) Command.dz)) fun y26=>
              ob (impl_SameLedger.m N (Ledger.mk y24.1.Leaves (Branch.mk y24.1.Map.Key y24.1.Map.Value y24.1.Map.At y24.1.Map.Kids) y24.1.Sessions) (Ledger.mk y26.1.Leaves (Branch.mk y26.1.Map.Key y26.1.Map.Value y26.1.Map.At y26.1.Map.Kids) y26.1.Sessions)) fun y27=>
              bif (y26.2.2 != (0:Int)) then
                some false
              else
              bif (bif false then true else (!((y26.2.1.Kind==y24.2.1.Kind)&&((y26.2.1.Place==y24.2.1.Place)&&(seq y26.2.1.Value y24.2.1.Value))))) then
                some false
              else
              bif (bif false then true else (y27.2 != (0:Int))) then
                some false
              else
              bif (bif false then true else (!y27.1)) then
                some false
              else
              rec (.s1 (w64 (v0+(1:Int))) (w64 (v1+(1:Int))) v2 v3 v4 v5 v6 v7 v8 v9 v10 y24.1.Map.Key y24.1.Map.Value y24.1.Map.At y24.1.Leaves y24.1.Map.Kids y24.1.Sessions)
              else none
              else none
            else
            rec (.s2 (w64 (v0+(1:Int))) (w64 (v1+(1:Int))) v2 v3 v4 v5 v6 v7 v8 v9 v10 y24.1.Map.Key y24.1.Map.Value y24.1.Map.At y24.1.Leaves y24.1.Map.Kids y24.1.Sessions)
          else
          bif (bif false then true else (y24.2.1.Kind==(2:Int))) then
            bif (bif true then true else false) then
              bif (decide (0≤v1)) then
              bif (decide (v1<(v2.length:Int))) then
              ob (impl_Apply.m N (Ledger.mk y24.1.Leaves (Branch.mk y24.1.Map.Key y24.1.Map.Value y24.1.Map.At y24.1.Map.Kids) y24.1.Sessions) (v2.getD (Int.toNat v1) Command.dz)) fun y28=>
              ob (impl_SameLedger.m N (Ledger.mk y24.1.Leaves (Branch.mk y24.1.Map.Key y24.1.Map.Value y24.1.Map.At y24.1.Map.Kids) y24.1.Sessions) (Ledger.mk y28.1.Leaves (Branch.mk y28.1.Map.Key y28.1.Map.Value y28.1.Map.At y28.1.Map.Kids) y28.1.Sessions)) fun y29=>
              bif (y28.2.2 != (0:Int)) then
                some false
              else
              bif (bif false then true else (!((y28.2.1.Kind==y24.2.1.Kind)&&((y28.2.1.Place==y24.2.1.Place)&&(seq y28.2.1.Value y24.2.1.Value))))) then
                some false
              else
              bif (bif false then true else (y29.2 != (0:Int))) then
                some false
              else
              bif (bif false then true else (!y29.1)) then
                some false
              else
              rec (.s1 (w64 (v0+(1:Int))) (w64 (v1+(1:Int))) v2 v3 v4 v5 v6 v7 v8 v9 v10 y24.1.Map.Key y24.1.Map.Value y24.1.Map.At y24.1.Leaves y24.1.Map.Kids y24.1.Sessions)
              else none
              else none
            else
            rec (.s2 (w64 (v0+(1:Int))) (w64 (v1+(1:Int))) v2 v3 v4 v5 v6 v7 v8 v9 v10 y24.1.Map.Key y24.1.Map.Value y24.1.Map.At y24.1.Leaves y24.1.Map.Kids y24.1.Sessions)
          else
          bif (bif true then (bif false then true else (y24.2.1.Kind==(6:Int))) else false) then
            bif (decide (0≤v1)) then
            bif (decide (v1<(v2.length:Int))) then
            ob (impl_Apply.m N (Ledger.mk y24.1.Leaves (Branch.mk y24.1.Map.Key y24.1.Map.Value y24.1.Map.At y24.1.Map.Kids) y24.1.Sessions) (v2.getD (Int.toNat v1) Command.dz)) fun y30=>
            ob (impl_SameLedger.m N (Ledger.mk y24.1.Leaves (Branch.mk y24.1.Map.Key y24.1.Map.Value y24.1.Map.At y24.1.Map.Kids) y24.1.Sessions) (Ledger.mk y30.1.Leaves (Branch.mk y30.1.Map.Key y30.1.Map.Value y30.1.Map.At y30.1.Map.Kids) y30.1.Sessions)) fun y31=>
            bif (y30.2.2 != (0:Int)) then
              some false
            else
            bif (bif false then true else (!((y30.2.1.Kind==y24.2.1.Kind)&&((y30.2.1.Place==y24.2.1.Place)&&(seq y30.2.1.Value y24.2.1.Value))))) then
              some false
            else
            bif (bif false then true else (y31.2 != (0:Int))) then
              some false
            else
            bif (bif false then true else (!y31.1)) then
              some false
            else
            rec (.s1 (w64 (v0+(1:Int))) (w64 (v1+(1:Int))) v2 v3 v4 v5 v6 v7 v8 v9 v10 y24.1.Map.Key y24.1.Map.Value y24.1.Map.At y24.1.Leaves y24.1.Map.Kids y24.1.Sessions)
            else none
            else none
          else
          rec (.s2 (w64 (v0+(1:Int))) (w64 (v1+(1:Int))) v2 v3 v4 v5 v6 v7 v8 v9 v10 y24.1.Map.Key y24.1.Map.Value y24.1.Map.At y24.1.Leaves y24.1.Map.Kids y24.1.Sessions)
        else
        rec (.s2 (w64 (v0+(1:Int))) (w64 (v1+(1:Int))) v2 v3 v4 v5 v6 v7 v8 v9 v10 y24.1.Map.Key y24.1.Map.Value y24.1.Map.At y24.1.Leaves y24.1.Map.Kids y24.1.Sessions)
        else none
        else none
      else
      bif ((y24.1.Leaves.length:Int) != v0) then
        some false
      else
      bif (decide (0≤v1)) then
      bif (decide (v1<(v2.length:Int))) then
      bif (decide ((v2.getD (Int.toNat v1) Command.dz).Kind<(4:Int))) then
        bif (y24.2.1.Kind==(1:Int)) then
          bif (bif true then true else false) then
            bif (decide (0≤v1)) then
            bif (decide (v1<(v2.length:Int))) then
            ob (impl_Apply.m N (Ledger.mk y24.1.Leaves (Branch.mk y24.1.Map.Key y24.1.Map.Value y24.1.Map.At y24.1.Map.Kids) y24.1.Sessions) (v2.getD (Int.toNat v1) Command.dz)) fun y32=>
            ob (impl_SameLedger.m N (Ledger.mk y24.1.Leaves (Branch.mk y24.1.Map.Key y24.1.Map.Value y24.1.Map.At y24.1.Map.Kids) y24.1.Sessions) (Ledger.mk y32.1.Leaves (Branch.mk y32.1.Map.Key y32.1.Map.Value y32.1.Map.At y32.1.Map.Kids) y32.1.Sessions)) fun y33=>
            bif (y32.2.2 != (0:Int)) then
              some false
            else
            bif (bif false then true else (!((y32.2.1.Kind==y24.2.1.Kind)&&((y32.2.1.Place==y24.2.1.Place)&&(seq y32.2.1.Value y24.2.1.Value))))) then
              some false
            else
            bif (bif false then true else (y33.2 != (0:Int))) then
              some false
            else
            bif (bif false then true else (!y33.1)) then
              some false
            else
            rec (.s1 v0 (w64 (v1+(1:Int))) v2 v3 v4 v5 v6 v7 v8 v9 v10 y24.1.Map.Key y24.1.Map.Value y24.1.Map.At y24.1.Leaves y24.1.Map.Kids y24.1.Sessions)
            else none
            else none
          else
          rec (.s2 v0 (w64 (v1+(1:Int))) v2 v3 v4 v5 v6 v7 v8 v9 v10 y24.1.Map.Key y24.1.Map.Value y24.1.Map.At y24.1.Leaves y24.1.Map.Kids y24.1.Sessions)
        else
        bif (bif false then true else (y24.2.1.Kind==(2:Int))) then
          bif (bif true then true else false) then
            bif (decide (0≤v1)) then
            bif (decide (v1<(v2.length:Int))) then
            ob (impl_Apply.m N (Ledger.mk y24.1.Leaves (Branch.mk y24.1.Map.Key y24.1.Map.Value y24.1.Map.At y24.1.Map.Kids) y24.1.Sessions) (v2.getD (Int.toNat v1) Command.dz)) fun y34=>
            ob (impl_SameLedger.m N (Ledger.mk y24.1.Leaves (Branch.mk y24.1.Map.Key y24.1.Map.Value y24.1.Map.At y24.1.Map.Kids) y24.1.Sessions) (Ledger.mk y34.1.Leaves (Branch.mk y34.1.Map.Key y34.1.Map.Value y34.1.Map.At y34.1.Map.Kids) y34.1.Sessions)) fun y35=>
            bif (y34.2.2 != (0:Int)) then
              some false
            else
            bif (bif false then true else (!((y34.2.1.Kind==y24.2.1.Kind)&&((y34.2.1.Place==y24.2.1.Place)&&(seq y34.2.1.Value y24.2.1.Value))))) then
              some false
            else
            bif (bif false then true else (y35.2 != (0:Int))) then
              some false
            else
            bif (bif false then true else (!y35.1)) then
              some false
            else
            rec (.s1 v0 (w64 (v1+(1:Int))) v2 v3 v4 v5 v6 v7 v8 v9 v10 y24.1.Map.Key y24.1.Map.Value y24.1.Map.At y24.1.Leaves y24.1.Map.Kids y24.1.Sessions)
            else none
            else none
          else
          rec (.s2 v0 (w64 (v1+(1:Int))) v2 v3 v4 v5 v6 v7 v8 v9 v10 y24.1.Map.Key y24.1.Map.Value y24.1.Map.At y24.1.Leaves y24.1.Map.Kids y24.1.Sessions)
        else
        bif (bif true then (bif false then true else (y24.2.1.Kind==(6:Int))) else false) then
          bif (decide (0≤v1)) then
          bif (decide (v1<(v2.length:Int))) then
          ob (impl_Apply.m N (Ledger.mk y24.1.Leaves (Branch.mk y24.1.Map.Key y24.1.Map.Value y24.1.Map.At y24.1.Map.Kids) y24.1.Sessions) (v2.getD (Int.toNat v1) Command.dz)) fun y36=>
          ob (impl_SameLedger.m N (Ledger.mk y24.1.Leaves (Branch.mk y24.1.Map.Key y24.1.Map.Value y24.1.Map.At y24.1.Map.Kids) y24.1.Sessions) (Ledger.mk y36.1.Leaves (Branch.mk y36.1.Map.Key y36.1.Map.Value y36.1.Map.At y36.1.Map.Kids) y36.1.Sessions)) fun y37=>
          bif (y36.2.2 != (0:Int)) then
            some false
          else
          bif (bif false then true else (!((y36.2.1.Kind==y24.2.1.Kind)&&((y36.2.1.Place==y24.2.1.Place)&&(seq y36.2.1.Value y24.2.1.Value))))) then
            some false
          else
          bif (bif false then true else (y37.2 != (0:Int))) then
            some false
          else
          bif (bif false then true else (!y37.1)) then
            some false
          else
          rec (.s1 v0 (w64 (v1+(1:Int))) v2 v3 v4 v5 v6 v7 v8 v9 v10 y24.1.Map.Key y24.1.Map.Value y24.1.Map.At y24.1.Leaves y24.1.Map.Kids y24.1.Sessions)
          else none
          else none
        else
        rec (.s2 v0 (w64 (v1+(1:Int))) v2 v3 v4 v5 v6 v7 v8 v9 v10 y24.1.Map.Key y24.1.Map.Value y24.1.Map.At y24.1.Leaves y24.1.Map.Kids y24.1.Sessions)
      else
      rec (.s2 v0 (w64 (v1+(1:Int))) v2 v3 v4 v5 v6 v7 v8 v9 v10 y24.1.Map.Key y24.1.Map.Value y24.1.Map.At y24.1.Leaves y24.1.Map.Kids y24.1.Sessions)
      else none
      else none)
      else none
      else none
      else none
      else none)
      else none
      else none
      else none
      else none
    else
    ob (impl_LedgerRoot.m N (Ledger.mk v14 (Branch.mk v11 v12 v13 v15) v16)) fun y38=>
    ob (impl_LedgerRoot.m N (Ledger.mk v6 (Branch.mk v3 v4 v5 v7) v8)) fun y39=>
    bif (y38.2==(0:Int)) then
      bif (bif true then (y39.2==(0:Int)) else false) then
        some (bif true then (seq y38.1 y39.1) else false)
      else
      some false
    else
    some false
  | .s2 v0 v1 v2 v3 v4 v5 v6 v7 v8 v9 v10 v11 v12 v13 v14 v15 v16=>
    bif (decide (v1<(v2.length:Int))) then
      bif (decide (0≤v1)) then
      bif (decide (v1<(v9.length:Int))) then
      bif (decide (0≤v1)) then
      bif (decide (v1<(v10.length:Int))) then
      (let w40:Bool:=(!(((v9.getD (Int.toNat v1) Reply.dz).Kind==(v10.getD (Int.toNat v1) Reply.dz).Kind)&&(((v9.getD (Int.toNat v1) Reply.dz).Place==(v10.getD (Int.toNat v1) Reply.dz).Place)&&(seq ((v9.getD (Int.toNat v1) Reply.dz).Value) ((v10.getD (Int.toNat v1) Reply.dz).Value)))))
      bif w40 then
        some false
      else
      bif (decide (0≤v1)) then
      bif (decide (v1<(v2.length:Int))) then
      ob (impl_Apply.m N (Ledger.mk v14 (Branch.mk v11 v12 v13 v15) v16) (v2.getD (Int.toNat v1) Command.dz)) fun y41=>
      bif (y41.2.2 != (0:Int)) then
        some false
      else
      bif (decide (0≤v1)) then
      bif (decide (v1<(v9.length:Int))) then
      (let w42:Bool:=(!((y41.2.1.Kind==(v9.getD (Int.toNat v1) Reply.dz).Kind)&&((y41.2.1.Place==(v9.getD (Int.toNat v1) Reply.dz).Place)&&(seq y41.2.1.Value ((v9.getD (Int.toNat v1) Reply.dz).Value)))))
      bif (bif false then true else w42) then
        some false
      else
      bif (decide ((y41.1.Leaves.length:Int) > (v14.length:Int))) then
        bif (y41.2.1.Kind != (1:Int)) then
          some false
        else
        bif (bif false then true else (y41.2.1.Place != (w64 (v0+(1:Int))))) then
          some false
        else
        bif ((y41.1.Leaves.length:Int) != (w64 (v0+(1:Int)))) then
          some false
        else
        bif (decide (0≤v1)) then
        bif (decide (v1<(v2.length:Int))) then
        bif (decide ((v2.getD (Int.toNat v1) Command.dz).Kind<(4:Int))) then
          bif (y41.2.1.Kind==(1:Int)) then
            bif (bif true then true else false) then
              bif (decide (0≤v1)) then
              bif (decide (v1<(v2.length:Int))) then
              ob (impl_Apply.m N (Ledger.mk y41.1.Leaves (Branch.mk y41.1.Map.Key y41.1.Map.Value y41.1.Map.At y41.1.Map.Kids) y41.1.Sessions) (v2.getD (Int.toNat v1) Command.dz)) fun y43=>
              ob (impl_SameLedger.m N (Ledger.mk y41.1.Leaves (Branch.mk y41.1.Map.Key y41.1.Map.Value y41.1.Map.At y41.1.Map.Kids) y41.1.Sessions) (Ledger.mk y43.1.Leaves (Branch.mk y43.1.Map.Key y43.1.Map.Value y43.1.Map.At y43.1.Map.Kids) y43.1.Sessions)) fun y44=>
              bif (y43.2.2 != (0:Int)) then
                some false
              else
              bif (bif false then true else (!((y43.2.1.Kind==y41.2.1.Kind)&&((y43.2.1.Place==y41.2.1.Place)&&(seq y43.2.1.Value y41.2.1.Value))))) then
                some false
              else
              bif (bif false then true else (y44.2 != (0:Int))) then
                some false
              else
              bif (bif false then true else (!y44.1)) then
                some false
              else
              rec (.s1 (w64 (v0+(1:Int))) (w64 (v1+(1:Int))) v2 v3 v4 v5 v6 v7 v8 v9 v10 y41.1.Map.Key y41.1.Map.Value y41.1.Map.At y41.1.Leaves y41.1.Map.Kids y41.1.Sessions)
              else none
              else none
            else
            rec (.s2 (w64 (v0+(1:Int))) (w64 (v1+(1:Int))) v2 v3 v4 v5 v6 v7 v8 v9 v10 y41.1.Map.Key y41.1.Map.Value y41.1.Map.At y41.1.Leaves y41.1.Map.Kids y41.1.Sessions)
          else
          bif (bif false then true else (y41.2.1.Kind==(2:Int))) then
            bif (bif true then true else false) then
              bif (decide (0≤v1)) then
              bif (decide (v1<(v2.length:Int))) then
              ob (impl_Apply.m N (Ledger.mk y41.1.Leaves (Branch.mk y41.1.Map.Key y41.1.Map.Value y41.1.Map.At y41.1.Map.Kids) y41.1.Sessions) (v2.getD (Int.toNat v1) Command.dz)) fun y45=>
              ob (impl_SameLedger.m N (Ledger.mk y41.1.Leaves (Branch.mk y41.1.Map.Key y41.1.Map.Value y41.1.Map.At y41.1.Map.Kids) y41.1.Sessions) (Ledger.mk y45.1.Leaves (Branch.mk y45.1.Map.Key y45.1.Map.Value y45.1.Map.At y45.1.Map.Kids) y45.1.Sessions)) fun y46=>
              bif (y45.2.2 != (0:Int)) then
                some false
              else
              bif (bif false then true else (!((y45.2.1.Kind==y41.2.1.Kind)&&((y45.2.1.Place==y41.2.1.Place)&&(seq y45.2.1.Value y41.2.1.Value))))) then
                some false
              else
              bif (bif false then true else (y46.2 != (0:Int))) then
                some false
              else
              bif (bif false then true else (!y46.1)) then
                some false
              else
              rec (.s1 (w64 (v0+(1:Int))) (w64 (v1+(1:Int))) v2 v3 v4 v5 v6 v7 v8 v9 v10 y41.1.Map.Key y41.1.Map.Value y41.1.Map.At y41.1.Leaves y41.1.Map.Kids y41.1.Sessions)
              else none
              else none
            else
            rec (.s2 (w64 (v0+(1:Int))) (w64 (v1+(1:Int))) v2 v3 v4 v5 v6 v7 v8 v9 v10 y41.1.Map.Key y41.1.Map.Value y41.1.Map.At y41.1.Leaves y41.1.Map.Kids y41.1.Sessions)
          else
          bif (bif true then (bif false then true else (y41.2.1.Kind==(6:Int))) else false) then
            bif (decide (0≤v1)) then
            bif (decide (v1<(v2.length:Int))) then
            ob (impl_Apply.m N (Ledger.mk y41.1.Leaves (Branch.mk y41.1.Map.Key y41.1.Map.Value y41.1.Map.At y41.1.Map.Kids) y41.1.Sessions) (v2.getD (Int.toNat v1) Command.dz)) fun y47=>
            ob (impl_SameLedger.m N (Ledger.mk y41.1.Leaves (Branch.mk y41.1.Map.Key y41.1.Map.Value y41.1.Map.At y41.1.Map.Kids) y41.1.Sessions) (Ledger.mk y47.1.Leaves (Branch.mk y47.1.Map.Key y47.1.Map.Value y47.1.Map.At y47.1.Map.Kids) y47.1.Sessions)) fun y48=>
            bif (y47.2.2 != (0:Int)) then
              some false
            else
            bif (bif false then true else (!((y47.2.1.Kind==y41.2.1.Kind)&&((y47.2.1.Place==y41.2.1.Place)&&(seq y47.2.1.Value y41.2.1.Value))))) then
              some false
            else
            bif (bif false then true else (y48.2 != (0:Int))) then
              some false
            else
            bif (bif false then true else (!y48.1)) then
              some false
            else
            rec (.s1 (w64 (v0+(1:Int))) (w64 (v1+(1:Int))) v2 v3 v4 v5 v6 v7 v8 v9 v10 y41.1.Map.Key y41.1.Map.Value y41.1.Map.At y41.1.Leaves y41.1.Map.Kids y41.1.Sessions)
            else none
            else none
          else
          rec (.s2 (w64 (v0+(1:Int))) (w64 (v1+(1:Int))) v2 v3 v4 v5 v6 v7 v8 v9 v10 y41.1.Map.Key y41.1.Map.Value y41.1.Map.At y41.1.Leaves y41.1.Map.Kids y41.1.Sessions)
        else
        rec (.s2 (w64 (v0+(1:Int))) (w64 (v1+(1:Int))) v2 v3 v4 v5 v6 v7 v8 v9 v10 y41.1.Map.Key y41.1.Map.Value y41.1.Map.At y41.1.Leaves y41.1.Map.Kids y41.1.Sessions)
        else none
        else none
      else
      bif ((y41.1.Leaves.length:Int) != v0) then
        some false
      else
      bif (decide (0≤v1)) then
      bif (decide (v1<(v2.length:Int))) then
      bif (decide ((v2.getD (Int.toNat v1) Command.dz).Kind<(4:Int))) then
        bif (y41.2.1.Kind==(1:Int)) then
          bif (bif true then true else false) then
            bif (decide (0≤v1)) then
            bif (decide (v1<(v2.length:Int))) then
            ob (impl_Apply.m N (Ledger.mk y41.1.Leaves (Branch.mk y41.1.Map.Key y41.1.Map.Value y41.1.Map.At y41.1.Map.Kids) y41.1.Sessions) (v2.getD (Int.toNat v1) Command.dz)) fun y49=>
            ob (impl_SameLedger.m N (Ledger.mk y41.1.Leaves (Branch.mk y41.1.Map.Key y41.1.Map.Value y41.1.Map.At y41.1.Map.Kids) y41.1.Sessions) (Ledger.mk y49.1.Leaves (Branch.mk y49.1.Map.Key y49.1.Map.Value y49.1.Map.At y49.1.Map.Kids) y49.1.Sessions)) fun y50=>
            bif (y49.2.2 != (0:Int)) then
              some false
            else
            bif (bif false then true else (!((y49.2.1.Kind==y41.2.1.Kind)&&((y49.2.1.Place==y41.2.1.Place)&&(seq y49.2.1.Value y41.2.1.Value))))) then
              some false
            else
            bif (bif false then true else (y50.2 != (0:Int))) then
              some false
            else
            bif (bif false then true else (!y50.1)) then
              some false
            else
            rec (.s1 v0 (w64 (v1+(1:Int))) v2 v3 v4 v5 v6 v7 v8 v9 v10 y41.1.Map.Key y41.1.Map.Value y41.1.Map.At y41.1.Leaves y41.1.Map.Kids y41.1.Sessions)
            else none
            else none
          else
          rec (.s2 v0 (w64 (v1+(1:Int))) v2 v3 v4 v5 v6 v7 v8 v9 v10 y41.1.Map.Key y41.1.Map.Value y41.1.Map.At y41.1.Leaves y41.1.Map.Kids y41.1.Sessions)
        else
        bif (bif false then true else (y41.2.1.Kind==(2:Int))) then
          bif (bif true then true else false) then
            bif (decide (0≤v1)) then
            bif (decide (v1<(v2.length:Int))) then
            ob (impl_Apply.m N (Ledger.mk y41.1.Leaves (Branch.mk y41.1.Map.Key y41.1.Map.Value y41.1.Map.At y41.1.Map.Kids) y41.1.Sessions) (v2.getD (Int.toNat v1) Command.dz)) fun y51=>
            ob (impl_SameLedger.m N (Ledger.mk y41.1.Leaves (Branch.mk y41.1.Map.Key y41.1.Map.Value y41.1.Map.At y41.1.Map.Kids) y41.1.Sessions) (Ledger.mk y51.1.Leaves (Branch.mk y51.1.Map.Key y51.1.Map.Value y51.1.Map.At y51.1.Map.Kids) y51.1.Sessions)) fun y52=>
            bif (y51.2.2 != (0:Int)) then
              some false
            else
            bif (bif false then true else (!((y51.2.1.Kind==y41.2.1.Kind)&&((y51.2.1.Place==y41.2.1.Place)&&(seq y51.2.1.Value y41.2.1.Value))))) then
              some false
            else
            bif (bif false then true else (y52.2 != (0:Int))) then
              some false
            else
            bif (bif false then true else (!y52.1)) then
              some false
            else
            rec (.s1 v0 (w64 (v1+(1:Int))) v2 v3 v4 v5 v6 v7 v8 v9 v10 y41.1.Map.Key y41.1.Map.Value y41.1.Map.At y41.1.Leaves y41.1.Map.Kids y41.1.Sessions)
            else none
            else none
          else
          rec (.s2 v0 (w64 (v1+(1:Int))) v2 v3 v4 v5 v6 v7 v8 v9 v10 y41.1.Map.Key y41.1.Map.Value y41.1.Map.At y41.1.Leaves y41.1.Map.Kids y41.1.Sessions)
        else
        bif (bif true then (bif false then true else (y41.2.1.Kind==(6:Int))) else false) then
          bif (decide (0≤v1)) then
          bif (decide (v1<(v2.length:Int))) then
          ob (impl_Apply.m N (Ledger.mk y41.1.Leaves (Branch.mk y41.1.Map.Key y41.1.Map.Value y41.1.Map.At y41.1.Map.Kids) y41.1.Sessions) (v2.getD (Int.toNat v1) Command.dz)) fun y53=>
          ob (impl_SameLedger.m N (Ledger.mk y41.1.Leaves (Branch.mk y41.1.Map.Key y41.1.Map.Value y41.1.Map.At y41.1.Map.Kids) y41.1.Sessions) (Ledger.mk y53.1.Leaves (Branch.mk y53.1.Map.Key y53.1.Map.Value y53.1.Map.At y53.1.Map.Kids) y53.1.Sessions)) fun y54=>
          bif (y53.2.2 != (0:Int)) then
            some false
          else
          bif (bif false then true else (!((y53.2.1.Kind==y41.2.1.Kind)&&((y53.2.1.Place==y41.2.1.Place)&&(seq y53.2.1.Value y41.2.1.Value))))) then
            some false
          else
          bif (bif false then true else (y54.2 != (0:Int))) then
            some false
          else
          bif (bif false then true else (!y54.1)) then
            some false
          else
          rec (.s1 v0 (w64 (v1+(1:Int))) v2 v3 v4 v5 v6 v7 v8 v9 v10 y41.1.Map.Key y41.1.Map.Value y41.1.Map.At y41.1.Leaves y41.1.Map.Kids y41.1.Sessions)
          else none
          else none
        else
        rec (.s2 v0 (w64 (v1+(1:Int))) v2 v3 v4 v5 v6 v7 v8 v9 v10 y41.1.Map.Key y41.1.Map.Value y41.1.Map.At y41.1.Leaves y41.1.Map.Kids y41.1.Sessions)
      else
      rec (.s2 v0 (w64 (v1+(1:Int))) v2 v3 v4 v5 v6 v7 v8 v9 v10 y41.1.Map.Key y41.1.Map.Value y41.1.Map.At y41.1.Leaves y41.1.Map.Kids y41.1.Sessions)
      else none
      else none)
      else none
      else none
      else none
      else none)
      else none
      else none
      else none
      else none
    else
    ob (impl_LedgerRoot.m N (Ledger.mk v14 (Branch.mk v11 v12 v13 v15) v16)) fun y55=>
    ob (impl_LedgerRoot.m N (Ledger.mk v6 (Branch.mk v3 v4 v5 v7) v8)) fun y56=>
    bif (y55.2==(0:Int)) then
      bif (bif true then (y56.2==(0:Int)) else false) then
        some (bif true then (seq y55.1 y56.1) else false)
      else
      some false
    else
    some false
noncomputable def lp12 (N:Nat) (a0:List Int):A12→Option R:=
  miter (fun rec=>step12 N a0 rec) N
noncomputable def m0 (N:Nat) (a0:List Int) (lp12:A12→Option R):Option R:=
  bif (decide ((a0.length:Int) > (1048576:Int))) then
    some true
  else
  ob (spec_CommandsOf.m N a0) fun y1=>
  ob (impl_ApplyAll.m N y1) fun y2=>
  ob (spec_ApplyAll.m N y1) fun y3=>
  ob (impl_SameLedger.m N (Ledger.mk y2.1.Leaves (Branch.mk y2.1.Map.Key y2.1.Map.Value y2.1.Map.At y2.1.Map.Kids) y2.1.Sessions) (Ledger.mk y3.1.Leaves (Branch.mk y3.1.Map.Key y3.1.Map.Value y3.1.Map.At y3.1.Map.Kids) y3.1.Sessions)) fun y4=>
  bif (y2.2.2 != (0:Int)) then
    some false
  else
  bif (bif false then true else (y4.2 != (0:Int))) then
    some false
  else
  bif (bif false then true else (!y4.1)) then
    some false
  else
  bif (bif false then true else ((y2.2.1.length:Int) != (y1.length:Int))) then
    some false
  else
  bif (bif false then true else ((y3.2.1.length:Int) != (y1.length:Int))) then
    some false
  else
  ob (impl_LedgerOK.m N (Ledger.mk y2.1.Leaves (Branch.mk y2.1.Map.Key y2.1.Map.Value y2.1.Map.At y2.1.Map.Kids) y2.1.Sessions)) fun y5=>
  bif (bif false then true else (!y5)) then
    some false
  else
  lp12 (.s0 (0:Int) (0:Int) y1 y2.1.Map.Key y2.1.Map.Value y2.1.Map.At y2.1.Leaves y2.1.Map.Kids y2.1.Sessions y2.2.1 y3.2.1 ByteArray.empty ByteArray.empty (0:Int))
@[reducible] noncomputable def m (N:Nat) (a0:List Int):Option R:=m0 N a0 (lp12 N a0)
@[reducible] noncomputable def sp (N:Nat):Spec E:=⟨[.val (.slice 5 (.int .u8))],[.bool],true,false,R,fun x=>m N x.1,fun r=>(r,()),fun r=>((),()),fun a b=>a.1,fun _ _=>rfl,fun _ _=>rfl⟩
end laws_FnLedger
end Mir.Y
