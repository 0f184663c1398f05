/- Models of functions. -/
import Derived.Test.YtmjmhkpkmejbnaaGreatQSM1
namespace Mir.Y
set_option linter.unusedVariables false
set_option maxRecDepth 10000
open Go Go.Proofs Mir
set_option linter.unusedSectionVars false
variable [UU]
namespace spec_l09Change
abbrev R:=Ledger×Reply
noncomputable def m (N:Nat) (a0:Ledger) (a1:Command):Option R:=
 ob (spec_l07Get.m N (Branch.mk a0.Map.Key a0.Map.Value a0.Map.At a0.Map.Kids) a1.Key) fun y1=>
 bif (a1.Kind==(2:Int)) then
  bif (bif true then y1.2 else false) then
   bif (decide (y1.1.Value.size+a1.Value.size≤9223372036854775807)) then
   bif (a1.Kind==(3:Int)) then
    bif (bif true then (!y1.2) else false) then
     some ((Ledger.mk a0.Leaves (Branch.mk a0.Map.Key a0.Map.Value a0.Map.At a0.Map.Kids) a0.Sessions),(Reply.mk (2:Int) (0:Int) ByteArray.empty))
    else
    bif ((a0.Leaves.length:Int)==(50:Int)) then
     some ((Ledger.mk a0.Leaves (Branch.mk a0.Map.Key a0.Map.Value a0.Map.At a0.Map.Kids) a0.Sessions),(Reply.mk (6:Int) (0:Int) ByteArray.empty))
    else
    bif (bif false then true else (decide (((y1.1.Value++a1.Value).size:Int) > (60:Int)))) then
     some ((Ledger.mk a0.Leaves (Branch.mk a0.Map.Key a0.Map.Value a0.Map.At a0.Map.Kids) a0.Sessions),(Reply.mk (6:Int) (0:Int) ByteArray.empty))
    else
    bif (a1.Kind != (3:Int)) then
     bif (bif true then (!y1.2) else false) then
      ob (spec_l07Size.m N (Branch.mk a0.Map.Key a0.Map.Value a0.Map.At a0.Map.Kids)) fun y2=>
      bif (bif false then true else (bif true then (y2==(40:Int)) else false)) then
       some ((Ledger.mk a0.Leaves (Branch.mk a0.Map.Key a0.Map.Value a0.Map.At a0.Map.Kids) a0.Sessions),(Reply.mk (6:Int) (0:Int) ByteArray.empty))
      else
      bif (a1.Kind==(3:Int)) then
       ob (spec_l07Hash.m N a1.Key) fun y3=>
       ob (spec_l07Drop.m N (Branch.mk a0.Map.Key a0.Map.Value a0.Map.At a0.Map.Kids) y3 a1.Key) fun y4=>
       bif (room (([]:List ByteArray).length+a0.Leaves.length) 16) then
       ob (spec_l02Bytes.m N a1) fun y5=>
       ob (spec_l06Leaf.m N (strOf y5)) fun y6=>
       bif (room ((([]:List ByteArray)++a0.Leaves).length+([y6]).length) 16) then
       some ((Ledger.mk ((([]:List ByteArray)++a0.Leaves)++[y6]) (Branch.mk y4.Key y4.Value y4.At y4.Kids) a0.Sessions),(Reply.mk (1:Int) (((([]:List ByteArray)++a0.Leaves)++[y6]).length:Int) y1.1.Value))
       else none
       else none
      else
      ob (spec_l07Put.m N (Branch.mk a0.Map.Key a0.Map.Value a0.Map.At a0.Map.Kids) a1.Key (y1.1.Value++a1.Value)) fun y7=>
      bif (room (([]:List ByteArray).length+a0.Leaves.length) 16) then
      ob (spec_l02Bytes.m N a1) fun y8=>
      ob (spec_l06Leaf.m N (strOf y8)) fun y9=>
      bif (room ((([]:List ByteArray)++a0.Leaves).length+([y9]).length) 16) then
      some ((Ledger.mk ((([]:List ByteArray)++a0.Leaves)++[y9]) (Branch.mk y7.Key y7.Value y7.At y7.Kids) a0.Sessions),(Reply.mk (1:Int) (((([]:List ByteArray)++a0.Leaves)++[y9]).length:Int) (y1.1.Value++a1.Value)))
      else none
      else none
     else
     bif (bif false then true else false) then
      some ((Ledger.mk a0.Leaves (Branch.mk a0.Map.Key a0.Map.Value a0.Map.At a0.Map.Kids) a0.Sessions),(Reply.mk (6:Int) (0:Int) ByteArray.empty))
     else
     bif (a1.Kind==(3:Int)) then
      ob (spec_l07Hash.m N a1.Key) fun y10=>
      ob (spec_l07Drop.m N (Branch.mk a0.Map.Key a0.Map.Value a0.Map.At a0.Map.Kids) y10 a1.Key) fun y11=>
      bif (room (([]:List ByteArray).length+a0.Leaves.length) 16) then
      ob (spec_l02Bytes.m N a1) fun y12=>
      ob (spec_l06Leaf.m N (strOf y12)) fun y13=>
      bif (room ((([]:List ByteArray)++a0.Leaves).length+([y13]).length) 16) then
      some ((Ledger.mk ((([]:List ByteArray)++a0.Leaves)++[y13]) (Branch.mk y11.Key y11.Value y11.At y11.Kids) a0.Sessions),(Reply.mk (1:Int) (((([]:List ByteArray)++a0.Leaves)++[y13]).length:Int) y1.1.Value))
      else none
      else none
     else
     ob (spec_l07Put.m N (Branch.mk a0.Map.Key a0.Map.Value a0.Map.At a0.Map.Kids) a1.Key (y1.1.Value++a1.Value)) fun y14=>
     bif (room (([]:List ByteArray).length+a0.Leaves.length) 16) then
     ob (spec_l02Bytes.m N a1) fun y15=>
     ob (spec_l06Leaf.m N (strOf y15)) fun y16=>
     bif (room ((([]:List ByteArray)++a0.Leaves).length+([y16]).length) 16) then
     some ((Ledger.mk ((([]:List ByteArray)++a0.Leaves)++[y16]) (Branch.mk y14.Key y14.Value y14.At y14.Kids) a0.Sessions),(Reply.mk (1:Int) (((([]:List ByteArray)++a0.Leaves)++[y16]).length:Int) (y1.1.Value++a1.Value)))
     else none
     else none
    else
    bif (bif false then true else false) then
     some ((Ledger.mk a0.Leaves (Branch.mk a0.Map.Key a0.Map.Value a0.Map.At a0.Map.Kids) a0.Sessions),(Reply.mk (6:Int) (0:Int) ByteArray.empty))
    else
    bif (a1.Kind==(3:Int)) then
     ob (spec_l07Hash.m N a1.Key) fun y17=>
     ob (spec_l07Drop.m N (Branch.mk a0.Map.Key a0.Map.Value a0.Map.At a0.Map.Kids) y17 a1.Key) fun y18=>
     bif (room (([]:List ByteArray).length+a0.Leaves.length) 16) then
     ob (spec_l02Bytes.m N a1) fun y19=>
     ob (spec_l06Leaf.m N (strOf y19)) fun y20=>
     bif (room ((([]:List ByteArray)++a0.Leaves).length+([y20]).length) 16) then
     some ((Ledger.mk ((([]:List ByteArray)++a0.Leaves)++[y20]) (Branch.mk y18.Key y18.Value y18.At y18.Kids) a0.Sessions),(Reply.mk (1:Int) (((([]:List ByteArray)++a0.Leaves)++[y20]).length:Int) y1.1.Value))
     else none
     else none
    else
    ob (spec_l07Put.m N (Branch.mk a0.Map.Key a0.Map.Value a0.Map.At a0.Map.Kids) a1.Key (y1.1.Value++a1.Value)) fun y21=>
    bif (room (([]:List ByteArray).length+a0.Leaves.length) 16) then
    ob (spec_l02Bytes.m N a1) fun y22=>
    ob (spec_l06Leaf.m N (strOf y22)) fun y23=>
    bif (room ((([]:List ByteArray)++a0.Leaves).length+([y23]).length) 16) then
    some ((Ledger.mk ((([]:List ByteArray)++a0.Leaves)++[y23]) (Branch.mk y21.Key y21.Value y21.At y21.Kids) a0.Sessions),(Reply.mk (1:Int) (((([]:List ByteArray)++a0.Leaves)++[y23]).length:Int) (y1.1.Value++a1.Value)))
    else none
    else none
   else
   bif ((a0.Leaves.length:Int)==(50:Int)) then
    some ((Ledger.mk a0.Leaves (Branch.mk a0.Map.Key a0.Map.Value a0.Map.At a0.Map.Kids) a0.Sessions),(Reply.mk (6:Int) (0:Int) ByteArray.empty))
   else
   bif (bif false then true else (decide (((y1.1.Value++a1.Value).size:Int) > (60:Int)))) then
    some ((Ledger.mk a0.Leaves (Branch.mk a0.Map.Key a0.Map.Value a0.Map.At a0.Map.Kids) a0.Sessions),(Reply.mk (6:Int) (0:Int) ByteArray.empty))
   else
   bif (a1.Kind != (3:Int)) then
    bif (bif true then (!y1.2) else false) then
     ob (spec_l07Size.m N (Branch.mk a0.Map.Key a0.Map.Value a0.Map.At a0.Map.Kids)) fun y24=>
     bif (bif false then true else (bif true then (y24==(40:Int)) else false)) then
      some ((Ledger.mk a0.Leaves (Branch.mk a0.Map.Key a0.Map.Value a0.Map.At a0.Map.Kids) a0.Sessions),(Reply.mk (6:Int) (0:Int) ByteArray.empty))
     else
     bif (a1.Kind==(3:Int)) then
      ob (spec_l07Hash.m N a1.Key) fun y25=>
      ob (spec_l07Drop.m N (Branch.mk a0.Map.Key a0.Map.Value a0.Map.At a0.Map.Kids) y25 a1.Key) fun y26=>
      bif (room (([]:List ByteArray).length+a0.Leaves.length) 16) then
      ob (spec_l02Bytes.m N a1) fun y27=>
      ob (spec_l06Leaf.m N (strOf y27)) fun y28=>
      bif (room ((([]:List ByteArray)++a0.Leaves).length+([y28]).length) 16) then
      some ((Ledger.mk ((([]:List ByteArray)++a0.Leaves)++[y28]) (Branch.mk y26.Key y26.Value y26.At y26.Kids) a0.Sessions),(Reply.mk (1:Int) (((([]:List ByteArray)++a0.Leaves)++[y28]).length:Int) y1.1.Value))
      else none
      else none
     else
     ob (spec_l07Put.m N (Branch.mk a0.Map.Key a0.Map.Value a0.Map.At a0.Map.Kids) a1.Key (y1.1.Value++a1.Value)) fun y29=>
     bif (room (([]:List ByteArray).length+a0.Leaves.length) 16) then
     ob (spec_l02Bytes.m N a1) fun y30=>
     ob (spec_l06Leaf.m N (strOf y30)) fun y31=>
     bif (room ((([]:List ByteArray)++a0.Leaves).length+([y31]).length) 16) then
     some ((Ledger.mk ((([]:List ByteArray)++a0.Leaves)++[y31]) (Branch.mk y29.Key y29.Value y29.At y29.Kids) a0.Sessions),(Reply.mk (1:Int) (((([]:List ByteArray)++a0.Leaves)++[y31]).length:Int) (y1.1.Value++a1.Value)))
     else none
     else none
    else
    bif (bif false then true else false) then
     some ((Ledger.mk a0.Leaves (Branch.mk a0.Map.Key a0.Map.Value a0.Map.At a0.Map.Kids) a0.Sessions),(Reply.mk (6:Int) (0:Int) ByteArray.empty))
    else
    bif (a1.Kind==(3:Int)) then
     ob (spec_l07Hash.m N a1.Key) fun y32=>
     ob (spec_l07Drop.m N (Branch.mk a0.Map.Key a0.Map.Value a0.Map.At a0.Map.Kids) y32 a1.Key) fun y33=>
     bif (room (([]:List ByteArray).length+a0.Leaves.length) 16) then
     ob (spec_l02Bytes.m N a1) fun y34=>
     ob (spec_l06Leaf.m N (strOf y34)) fun y35=>
     bif (room ((([]:List ByteArray)++a0.Leaves).length+([y35]).length) 16) then
     some ((Ledger.mk ((([]:List ByteArray)++a0.Leaves)++[y35]) (Branch.mk y33.Key y33.Value y33.At y33.Kids) a0.Sessions),(Reply.mk (1:Int) (((([]:List ByteArray)++a0.Leaves)++[y35]).length:Int) y1.1.Value))
     else none
     else none
    else
    ob (spec_l07Put.m N (Branch.mk a0.Map.Key a0.Map.Value a0.Map.At a0.Map.Kids) a1.Key (y1.1.Value++a1.Value)) fun y36=>
    bif (room (([]:List ByteArray).length+a0.Leaves.length) 16) then
    ob (spec_l02Bytes.m N a1) fun y37=>
    ob (spec_l06Leaf.m N (strOf y37)) fun y38=>
    bif (room ((([]:List ByteArray)++a0.Leaves).length+([y38]).length) 16) then
    some ((Ledger.mk ((([]:List ByteArray)++a0.Leaves)++[y38]) (Branch.mk y36.Key y36.Value y36.At y36.Kids) a0.Sessions),(Reply.mk (1:Int) (((([]:List ByteArray)++a0.Leaves)++[y38]).length:Int) (y1.1.Value++a1.Value)))
    else none
    else none
   else
   bif (bif false then true else false) then
    some ((Ledger.mk a0.Leaves (Branch.mk a0.Map.Key a0.Map.Value a0.Map.At a0.Map.Kids) a0.Sessions),(Reply.mk (6:Int) (0:Int) ByteArray.empty))
   else
   bif (a1.Kind==(3:Int)) then
    ob (spec_l07Hash.m N a1.Key) fun y39=>
    ob (spec_l07Drop.m N (Branch.mk a0.Map.Key a0.Map.Value a0.Map.At a0.Map.Kids) y39 a1.Key) fun y40=>
    bif (room (([]:List ByteArray).length+a0.Leaves.length) 16) then
    ob (spec_l02Bytes.m N a1) fun y41=>
    ob (spec_l06Leaf.m N (strOf y41)) fun y42=>
    bif (room ((([]:List ByteArray)++a0.Leaves).length+([y42]).length) 16) then
    some ((Ledger.mk ((([]:List ByteArray)++a0.Leaves)++[y42]) (Branch.mk y40.Key y40.Value y40.At y40.Kids) a0.Sessions),(Reply.mk (1:Int) (((([]:List ByteArray)++a0.Leaves)++[y42]).length:Int) y1.1.Value))
    else none
    else none
   else
   ob (spec_l07Put.m N (Branch.mk a0.Map.Key a0.Map.Value a0.Map.At a0.Map.Kids) a1.Key (y1.1.Value++a1.Value)) fun y43=>
   bif (room (([]:List ByteArray).length+a0.Leaves.length) 16) then
   ob (spec_l02Bytes.m N a1) fun y44=>
   ob (spec_l06Leaf.m N (strOf y44)) fun y45=>
   bif (room ((([]:List ByteArray)++a0.Leaves).length+([y45]).length) 16) then
   some ((Ledger.mk ((([]:List ByteArray)++a0.Leaves)++[y45]) (Branch.mk y43.Key y43.Value y43.At y43.Kids) a0.Sessions),(Reply.mk (1:Int) (((([]:List ByteArray)++a0.Leaves)++[y45]).length:Int) (y1.1.Value++a1.Value)))
   else none
   else none
   else none
  else
  bif (a1.Kind==(3:Int)) then
   bif (bif true then (!y1.2) else false) then
    some ((Ledger.mk a0.Leaves (Branch.mk a0.Map.Key a0.Map.Value a0.Map.At a0.Map.Kids) a0.Sessions),(Reply.mk (2:Int) (0:Int) ByteArray.empty))
   else
   bif ((a0.Leaves.length:Int)==(50:Int)) then
    some ((Ledger.mk a0.Leaves (Branch.mk a0.Map.Key a0.Map.Value a0.Map.At a0.Map.Kids) a0.Sessions),(Reply.mk (6:Int) (0:Int) ByteArray.empty))
   else
   bif (bif false then true else (decide ((a1.Value.size:Int) > (60:Int)))) then
    some ((Ledger.mk a0.Leaves (Branch.mk a0.Map.Key a0.Map.Value a0.Map.At a0.Map.Kids) a0.Sessions),(Reply.mk (6:Int) (0:Int) ByteArray.empty))
   else
   bif (a1.Kind != (3:Int)) then
    bif (bif true then (!y1.2) else false) then
     ob (spec_l07Size.m N (Branch.mk a0.Map.Key a0.Map.Value a0.Map.At a0.Map.Kids)) fun y46=>
     bif (bif false then true else (bif true then (y46==(40:Int)) else false)) then
      some ((Ledger.mk a0.Leaves (Branch.mk a0.Map.Key a0.Map.Value a0.Map.At a0.Map.Kids) a0.Sessions),(Reply.mk (6:Int) (0:Int) ByteArray.empty))
     else
     bif (a1.Kind==(3:Int)) then
      ob (spec_l07Hash.m N a1.Key) fun y47=>
      ob (spec_l07Drop.m N (Branch.mk a0.Map.Key a0.Map.Value a0.Map.At a0.Map.Kids) y47 a1.Key) fun y48=>
      bif (room (([]:List ByteArray).length+a0.Leaves.length) 16) then
      ob (spec_l02Bytes.m N a1) fun y49=>
      ob (spec_l06Leaf.m N (strOf y49)) fun y50=>
      bif (room ((([]:List ByteArray)++a0.Leaves).length+([y50]).length) 16) then
      some ((Ledger.mk ((([]:List ByteArray)++a0.Leaves)++[y50]) (Branch.mk y48.Key y48.Value y48.At y48.Kids) a0.Sessions),(Reply.mk (1:Int) (((([]:List ByteArray)++a0.Leaves)++[y50]).length:Int) y1.1.Value))
      else none
      else none
     else
     ob (spec_l07Put.m N (Branch.mk a0.Map.Key a0.Map.Value a0.Map.At a0.Map.Kids) a1.Key a1.Value) fun y51=>
     bif (room (([]:List ByteArray).length+a0.Leaves.length) 16) then
     ob (spec_l02Bytes.m N a1) fun y52=>
     ob (spec_l06Leaf.m N (strOf y52)) fun y53=>
     bif (room ((([]:List ByteArray)++a0.Leaves).length+([y53]).length) 16) then
     some ((Ledger.mk ((([]:List ByteArray)++a0.Leaves)++[y53]) (Branch.mk y51.Key y51.Value y51.At y51.Kids) a0.Sessions),(Reply.mk (1:Int) (((([]:List ByteArray)++a0.Leaves)++[y53]).length:Int) a1.Value))
     else none
     else none
    else
    bif (bif false then true else false) then
     some ((Ledger.mk a0.Leaves (Branch.mk a0.Map.Key a0.Map.Value a0.Map.At a0.Map.Kids) a0.Sessions),(Reply.mk (6:Int) (0:Int) ByteArray.empty))
    else
    bif (a1.Kind==(3:Int)) then
     ob (spec_l07Hash.m N a1.Key) fun y54=>
     ob (spec_l07Drop.m N (Branch.mk a0.Map.Key a0.Map.Value a0.Map.At a0.Map.Kids) y54 a1.Key) fun y55=>
     bif (room (([]:List ByteArray).length+a0.Leaves.length) 16) then
     ob (spec_l02Bytes.m N a1) fun y56=>
     ob (spec_l06Leaf.m N (strOf y56)) fun y57=>
     bif (room ((([]:List ByteArray)++a0.Leaves).length+([y57]).length) 16) then
     some ((Ledger.mk ((([]:List ByteArray)++a0.Leaves)++[y57]) (Branch.mk y55.Key y55.Value y55.At y55.Kids) a0.Sessions),(Reply.mk (1:Int) (((([]:List ByteArray)++a0.Leaves)++[y57]).length:Int) y1.1.Value))
     else none
     else none
    else
    ob (spec_l07Put.m N (Branch.mk a0.Map.Key a0.Map.Value a0.Map.At a0.Map.Kids) a1.Key a1.Value) fun y58=>
    bif (room (([]:List ByteArray).length+a0.Leaves.length) 16) then
    ob (spec_l02Bytes.m N a1) fun y59=>
    ob (spec_l06Leaf.m N (strOf y59)) fun y60=>
    bif (room ((([]:List ByteArray)++a0.Leaves).length+([y60]).length) 16) then
    some ((Ledger.mk ((([]:List ByteArray)++a0.Leaves)++[y60]) (Branch.mk y58.Key y58.Value y58.At y58.Kids) a0.Sessions),(Reply.mk (1:Int) (((([]:List ByteArray)++a0.Leaves)++[y60]).length:Int) a1.Value))
    else none
    else none
   else
   bif (bif false then true else false) then
    some ((Ledger.mk a0.Leaves (Branch.mk a0.Map.Key a0.Map.Value a0.Map.At a0.Map.Kids) a0.Sessions),(Reply.mk (6:Int) (0:Int) ByteArray.empty))
   else
   bif (a1.Kind==(3:Int)) then
    ob (spec_l07Hash.m N a1.Key) fun y61=>
    ob (spec_l07Drop.m N (Branch.mk a0.Map.Key a0.Map.Value a0.Map.At a0.Map.Kids) y61 a1.Key) fun y62=>
    bif (room (([]:List ByteArray).length+a0.Leaves.length) 16) then
    ob (spec_l02Bytes.m N a1) fun y63=>
    ob (spec_l06Leaf.m N (strOf y63)) fun y64=>
    bif (room ((([]:List ByteArray)++a0.Leaves).length+([y64]).length) 16) then
    some ((Ledger.mk ((([]:List ByteArray)++a0.Leaves)++[y64]) (Branch.mk y62.Key y62.Value y62.At y62.Kids) a0.Sessions),(Reply.mk (1:Int) (((([]:List ByteArray)++a0.Leaves)++[y64]).length:Int) y1.1.Value))
    else none
    else none
   else
   ob (spec_l07Put.m N (Branch.mk a0.Map.Key a0.Map.Value a0.Map.At a0.Map.Kids) a1.Key a1.Value) fun y65=>
   bif (room (([]:List ByteArray).length+a0.Leaves.length) 16) then
   ob (spec_l02Bytes.m N a1) fun y66=>
   ob (spec_l06Leaf.m N (strOf y66)) fun y67=>
   bif (room ((([]:List ByteArray)++a0.Leaves).length+([y67]).length) 16) then
   some ((Ledger.mk ((([]:List ByteArray)++a0.Leaves)++[y67]) (Branch.mk y65.Key y65.Value y65.At y65.Kids) a0.Sessions),(Reply.mk (1:Int) (((([]:List ByteArray)++a0.Leaves)++[y67]).length:Int) a1.Value))
   else none
   else none
  else
  bif ((a0.Leaves.length:Int)==(50:Int)) then
   some ((Ledger.mk a0.Leaves (Branch.mk a0.Map.Key a0.Map.Value a0.Map.At a0.Map.Kids) a0.Sessions),(Reply.mk (6:Int) (0:Int) ByteArray.empty))
  else
  bif (bif false then true else (decide ((a1.Value.size:Int) > (60:Int)))) then
   some ((Ledger.mk a0.Leaves (Branch.mk a0.Map.Key a0.Map.Value a0.Map.At a0.Map.Kids) a0.Sessions),(Reply.mk (6:Int) (0:Int) ByteArray.empty))
  else
  bif (a1.Kind != (3:Int)) then
   bif (bif true then (!y1.2) else false) then
    ob (spec_l07Size.m N (Branch.mk a0.Map.Key a0.Map.Value a0.Map.At a0.Map.Kids)) fun y68=>
    bif (bif false then true else (bif true then (y68==(40:Int)) else false)) then
     some ((Ledger.mk a0.Leaves (Branch.mk a0.Map.Key a0.Map.Value a0.Map.At a0.Map.Kids) a0.Sessions),(Reply.mk (6:Int) (0:Int) ByteArray.empty))
    else
    bif (a1.Kind==(3:Int)) then
     ob (spec_l07Hash.m N a1.Key) fun y69=>
     ob (spec_l07Drop.m N (Branch.mk a0.Map.Key a0.Map.Value a0.Map.At a0.Map.Kids) y69 a1.Key) fun y70=>
     bif (room (([]:List ByteArray).length+a0.Leaves.length) 16) then
     ob (spec_l02Bytes.m N a1) fun y71=>
     ob (spec_l06Leaf.m N (strOf y71)) fun y72=>
     bif (room ((([]:List ByteArray)++a0.Leaves).length+([y72]).length) 16) then
     some ((Ledger.mk ((([]:List ByteArray)++a0.Leaves)++[y72]) (Branch.mk y70.Key y70.Value y70.At y70.Kids) a0.Sessions),(Reply.mk (1:Int) (((([]:List ByteArray)++a0.Leaves)++[y72]).length:Int) y1.1.Value))
     else none
     else none
    else
    ob (spec_l07Put.m N (Branch.mk a0.Map.Key a0.Map.Value a0.Map.At a0.Map.Kids) a1.Key a1.Value) fun y73=>
    bif (room (([]:List ByteArray).length+a0.Leaves.length) 16) then
    ob (spec_l02Bytes.m N a1) fun y74=>
    ob (spec_l06Leaf.m N (strOf y74)) fun y75=>
    bif (room ((([]:List ByteArray)++a0.Leaves).length+([y75]).length) 16) then
    some ((Ledger.mk ((([]:List ByteArray)++a0.Leaves)++[y75]) (Branch.mk y73.Key y73.Value y73.At y73.Kids) a0.Sessions),(Reply.mk (1:Int) (((([]:List ByteArray)++a0.Leaves)++[y75]).length:Int) a1.Value))
    else none
    else none
   else
   bif (bif false then true else false) then
    some ((Ledger.mk a0.Leaves (Branch.mk a0.Map.Key a0.Map.Value a0.Map.At a0.Map.Kids) a0.Sessions),(Reply.mk (6:Int) (0:Int) ByteArray.empty))
   else
   bif (a1.Kind==(3:Int)) then
    ob (spec_l07Hash.m N a1.Key) fun y76=>
    ob (spec_l07Drop.m N (Branch.mk a0.Map.Key a0.Map.Value a0.Map.At a0.Map.Kids) y76 a1.Key) fun y77=>
    bif (room (([]:List ByteArray).length+a0.Leaves.length) 16) then
    ob (spec_l02Bytes.m N a1) fun y78=>
    ob (spec_l06Leaf.m N (strOf y78)) fun y79=>
    bif (room ((([]:List ByteArray)++a0.Leaves).length+([y79]).length) 16) then
    some ((Ledger.mk ((([]:List ByteArray)++a0.Leaves)++[y79]) (Branch.mk y77.Key y77.Value y77.At y77.Kids) a0.Sessions),(Reply.mk (1:Int) (((([]:List ByteArray)++a0.Leaves)++[y79]).length:Int) y1.1.Value))
    else none
    else none
   else
   ob (spec_l07Put.m N (Branch.mk a0.Map.Key a0.Map.Value a0.Map.At a0.Map.Kids) a1.Key a1.Value) fun y80=>
   bif (room (([]:List ByteArray).length+a0.Leaves.length) 16) then
   ob (spec_l02Bytes.m N a1) fun y81=>
   ob (spec_l06Leaf.m N (strOf y81)) fun y82=>
   bif (room ((([]:List ByteArray)++a0.Leaves).length+([y82]).length) 16) then
   some ((Ledger.mk ((([]:List ByteArray)++a0.Leaves)++[y82]) (Branch.mk y80.Key y80.Value y80.At y80.Kids) a0.Sessions),(Reply.mk (1:Int) (((([]:List ByteArray)++a0.Leaves)++[y82]).length:Int) a1.Value))
   else none
   else none
  else
  bif (bif false then true else false) then
   some ((Ledger.mk a0.Leaves (Branch.mk a0.Map.Key a0.Map.Value a0.Map.At a0.Map.Kids) a0.Sessions),(Reply.mk (6:Int) (0:Int) ByteArray.empty))
  else
  bif (a1.Kind==(3:Int)) then
   ob (spec_l07Hash.m N a1.Key) fun y83=>
   ob (spec_l07Drop.m N (Branch.mk a0.Map.Key a0.Map.Value a0.Map.At a0.Map.Kids) y83 a1.Key) fun y84=>
   bif (room (([]:List ByteArray).length+a0.Leaves.length) 16) then
   ob (spec_l02Bytes.m N a1) fun y85=>
   ob (spec_l06Leaf.m N (strOf y85)) fun y86=>
   bif (room ((([]:List ByteArray)++a0.Leaves).length+([y86]).length) 16) then
   some ((Ledger.mk ((([]:List ByteArray)++a0.Leaves)++[y86]) (Branch.mk y84.Key y84.Value y84.At y84.Kids) a0.Sessions),(Reply.mk (1:Int) (((([]:List ByteArray)++a0.Leaves)++[y86]).length:Int) y1.1.Value))
   else none
   else none
  else
  ob (spec_l07Put.m N (Branch.mk a0.Map.Key a0.Map.Value a0.Map.At a0.Map.Kids) a1.Key a1.Value) fun y87=>
  bif (room (([]:List ByteArray).length+a0.Leaves.length) 16) then
  ob (spec_l02Bytes.m N a1) fun y88=>
  ob (spec_l06Leaf.m N (strOf y88)) fun y89=>
  bif (room ((([]:List ByteArray)++a0.Leaves).length+([y89]).length) 16) then
  some ((Ledger.mk ((([]:List ByteArray)++a0.Leaves)++[y89]) (Branch.mk y87.Key y87.Value y87.At y87.Kids) a0.Sessions),(Reply.mk (1:Int) (((([]:List ByteArray)++a0.Leaves)++[y89]).length:Int) a1.Value))
  else none
  else none
 else
 bif (a1.Kind==(3:Int)) then
  bif (bif true then (!y1.2) else false) then
   some ((Ledger.mk a0.Leaves (Branch.mk a0.Map.Key a0.Map.Value a0.Map.At a0.Map.Kids) a0.Sessions),(Reply.mk (2:Int) (0:Int) ByteArray.empty))
  else
  bif ((a0.Leaves.length:Int)==(50:Int)) then
   some ((Ledger.mk a0.Leaves (Branch.mk a0.Map.Key a0.Map.Value a0.Map.At a0.Map.Kids) a0.Sessions),(Reply.mk (6:Int) (0:Int) ByteArray.empty))
  else
  bif (bif false then true else (decide ((a1.Value.size:Int) > (60:Int)))) then
   some ((Ledger.mk a0.Leaves (Branch.mk a0.Map.Key a0.Map.Value a0.Map.At a0.Map.Kids) a0.Sessions),(Reply.mk (6:Int) (0:Int) ByteArray.empty))
  else
  bif (a1.Kind != (3:Int)) then
   bif (bif true then (!y1.2) else false) then
    ob (spec_l07Size.m N (Branch.mk a0.Map.Key a0.Map.Value a0.Map.At a0.Map.Kids)) fun y90=>
    bif (bif false then true else (bif true then (y90==(40:Int)) else false)) then
     some ((Ledger.mk a0.Leaves (Branch.mk a0.Map.Key a0.Map.Value a0.Map.At a0.Map.Kids) a0.Sessions),(Reply.mk (6:Int) (0:Int) ByteArray.empty))
    else
    bif (a1.Kind==(3:Int)) then
     ob (spec_l07Hash.m N a1.Key) fun y91=>
     ob (spec_l07Drop.m N (Branch.mk a0.Map.Key a0.Map.Value a0.Map.At a0.Map.Kids) y91 a1.Key) fun y92=>
     bif (room (([]:List ByteArray).length+a0.Leaves.length) 16) then
     ob (spec_l02Bytes.m N a1) fun y93=>
     ob (spec_l06Leaf.m N (strOf y93)) fun y94=>
     bif (room ((([]:List ByteArray)++a0.Leaves).length+([y94]).length) 16) then
     some ((Ledger.mk ((([]:List ByteArray)++a0.Leaves)++[y94]) (Branch.mk y92.Key y92.Value y92.At y92.Kids) a0.Sessions),(Reply.mk (1:Int) (((([]:List ByteArray)++a0.Leaves)++[y94]).length:Int) y1.1.Value))
     else none
     else none
    else
    ob (spec_l07Put.m N (Branch.mk a0.Map.Key a0.Map.Value a0.Map.At a0.Map.Kids) a1.Key a1.Value) fun y95=>
    bif (room (([]:List ByteArray).length+a0.Leaves.length) 16) then
    ob (spec_l02Bytes.m N a1) fun y96=>
    ob (spec_l06Leaf.m N (strOf y96)) fun y97=>
    bif (room ((([]:List ByteArray)++a0.Leaves).length+([y97]).length) 16) then
    some ((Ledger.mk ((([]:List ByteArray)++a0.Leaves)++[y97]) (Branch.mk y95.Key y95.Value y95.At y95.Kids) a0.Sessions),(Reply.mk (1:Int) (((([]:List ByteArray)++a0.Leaves)++[y97]).length:Int) a1.Value))
    else none
    else none
   else
   bif (bif false then true else false) then
    some ((Ledger.mk a0.Leaves (Branch.mk a0.Map.Key a0.Map.Value a0.Map.At a0.Map.Kids) a0.Sessions),(Reply.mk (6:Int) (0:Int) ByteArray.empty))
   else
   bif (a1.Kind==(3:Int)) then
    ob (spec_l07Hash.m N a1.Key) fun y98=>
    ob (spec_l07Drop.m N (Branch.mk a0.Map.Key a0.Map.Value a0.Map.At a0.Map.Kids) y98 a1.Key) fun y99=>
    bif (room (([]:List ByteArray).length+a0.Leaves.length) 16) then
    ob (spec_l02Bytes.m N a1) fun y100=>
    ob (spec_l06Leaf.m N (strOf y100)) fun y101=>
    bif (room ((([]:List ByteArray)++a0.Leaves).length+([y101]).length) 16) then
    some ((Ledger.mk ((([]:List ByteArray)++a0.Leaves)++[y101]) (Branch.mk y99.Key y99.Value y99.At y99.Kids) a0.Sessions),(Reply.mk (1:Int) (((([]:List ByteArray)++a0.Leaves)++[y101]).length:Int) y1.1.Value))
    else none
    else none
   else
   ob (spec_l07Put.m N (Branch.mk a0.Map.Key a0.Map.Value a0.Map.At a0.Map.Kids) a1.Key a1.Value) fun y102=>
   bif (room (([]:List ByteArray).length+a0.Leaves.length) 16) then
   ob (spec_l02Bytes.m N a1) fun y103=>
   ob (spec_l06Leaf.m N (strOf y103)) fun y104=>
   bif (room ((([]:List ByteArray)++a0.Leaves).length+([y104]).length) 16) then
   some ((Ledger.mk ((([]:List ByteArray)++a0.Leaves)++[y104]) (Branch.mk y102.Key y102.Value y102.At y102.Kids) a0.Sessions),(Reply.mk (1:Int) (((([]:List ByteArray)++a0.Leaves)++[y104]).length:Int) a1.Value))
   else none
   else none
  else
  bif (bif false then true else false) then
   some ((Ledger.mk a0.Leaves (Branch.mk a0.Map.Key a0.Map.Value a0.Map.At a0.Map.Kids) a0.Sessions),(Reply.mk (6:Int) (0:Int) ByteArray.empty))
  else
  bif (a1.Kind==(3:Int)) then
   ob (spec_l07Hash.m N a1.Key) fun y105=>
   ob (spec_l07Drop.m N (Branch.mk a0.Map.Key a0.Map.Value a0.Map.At a0.Map.Kids) y105 a1.Key) fun y106=>
   bif (room (([]:List ByteArray).length+a0.Leaves.length) 16) then
   ob (spec_l02Bytes.m N a1) fun y107=>
   ob (spec_l06Leaf.m N (strOf y107)) fun y108=>
   bif (room ((([]:List ByteArray)++a0.Leaves).length+([y108]).length) 16) then
   some ((Ledger.mk ((([]:List ByteArray)++a0.Leaves)++[y108]) (Branch.mk y106.Key y106.Value y106.At y106.Kids) a0.Sessions),(Reply.mk (1:Int) (((([]:List ByteArray)++a0.Leaves)++[y108]).length:Int) y1.1.Value))
   else none
   else none
  else
  ob (spec_l07Put.m N (Branch.mk a0.Map.Key a0.Map.Value a0.Map.At a0.Map.Kids) a1.Key a1.Value) fun y109=>
  bif (room (([]:List ByteArray).length+a0.Leaves.length) 16) then
  ob (spec_l02Bytes.m N a1) fun y110=>
  ob (spec_l06Leaf.m N (strOf y110)) fun y111=>
  bif (room ((([]:List ByteArray)++a0.Leaves).length+([y111]).length) 16) then
  some ((Ledger.mk ((([]:List ByteArray)++a0.Leaves)++[y111]) (Branch.mk y109.Key y109.Value y109.At y109.Kids) a0.Sessions),(Reply.mk (1:Int) (((([]:List ByteArray)++a0.Leaves)++[y111]).length:Int) a1.Value))
  else none
  else none
 else
 bif ((a0.Leaves.length:Int)==(50:Int)) then
  some ((Ledger.mk a0.Leaves (Branch.mk a0.Map.Key a0.Map.Value a0.Map.At a0.Map.Kids) a0.Sessions),(Reply.mk (6:Int) (0:Int) ByteArray.empty))
 else
 bif (bif false then true else (decide ((a1.Value.size:Int) > (60:Int)))) then
  some ((Ledger.mk a0.Leaves (Branch.mk a0.Map.Key a0.Map.Value a0.Map.At a0.Map.Kids) a0.Sessions),(Reply.mk (6:Int) (0:Int) ByteArray.empty))
 else
 bif (a1.Kind != (3:Int)) then
  bif (bif true then (!y1.2) else false) then
   ob (spec_l07Size.m N (Branch.mk a0.Map.Key a0.Map.Value a0.Map.At a0.Map.Kids)) fun y112=>
   bif (bif false then true else (bif true then (y112==(40:Int)) else false)) then
    some ((Ledger.mk a0.Leaves (Branch.mk a0.Map.Key a0.Map.Value a0.Map.At a0.Map.Kids) a0.Sessions),(Reply.mk (6:Int) (0:Int) ByteArray.empty))
   else
   bif (a1.Kind==(3:Int)) then
    ob (spec_l07Hash.m N a1.Key) fun y113=>
    ob (spec_l07Drop.m N (Branch.mk a0.Map.Key a0.Map.Value a0.Map.At a0.Map.Kids) y113 a1.Key) fun y114=>
    bif (room (([]:List ByteArray).length+a0.Leaves.length) 16) then
    ob (spec_l02Bytes.m N a1) fun y115=>
    ob (spec_l06Leaf.m N (strOf y115)) fun y116=>
    bif (room ((([]:List ByteArray)++a0.Leaves).length+([y116]).length) 16) then
    some ((Ledger.mk ((([]:List ByteArray)++a0.Leaves)++[y116]) (Branch.mk y114.Key y114.Value y114.At y114.Kids) a0.Sessions),(Reply.mk (1:Int) (((([]:List ByteArray)++a0.Leaves)++[y116]).length:Int) y1.1.Value))
    else none
    else none
   else
   ob (spec_l07Put.m N (Branch.mk a0.Map.Key a0.Map.Value a0.Map.At a0.Map.Kids) a1.Key a1.Value) fun y117=>
   bif (room (([]:List ByteArray).length+a0.Leaves.length) 16) then
   ob (spec_l02Bytes.m N a1) fun y118=>
   ob (spec_l06Leaf.m N (strOf y118)) fun y119=>
   bif (room ((([]:List ByteArray)++a0.Leaves).length+([y119]).length) 16) then
   some ((Ledger.mk ((([]:List ByteArray)++a0.Leaves)++[y119]) (Branch.mk y117.Key y117.Value y117.At y117.Kids) a0.Sessions),(Reply.mk (1:Int) (((([]:List ByteArray)++a0.Leaves)++[y119]).length:Int) a1.Value))
   else none
   else none
  else
  bif (bif false then true else false) then
   some ((Ledger.mk a0.Leaves (Branch.mk a0.Map.Key a0.Map.Value a0.Map.At a0.Map.Kids) a0.Sessions),(Reply.mk (6:Int) (0:Int) ByteArray.empty))
  else
  bif (a1.Kind==(3:Int)) then
   ob (spec_l07Hash.m N a1.Key) fun y120=>
   ob (spec_l07Drop.m N (Branch.mk a0.Map.Key a0.Map.Value a0.Map.At a0.Map.Kids) y120 a1.Key) fun y121=>
   bif (room (([]:List ByteArray).length+a0.Leaves.length) 16) then
   ob (spec_l02Bytes.m N a1) fun y122=>
   ob (spec_l06Leaf.m N (strOf y122)) fun y123=>
   bif (room ((([]:List ByteArray)++a0.Leaves).length+([y123]).length) 16) then
   some ((Ledger.mk ((([]:List ByteArray)++a0.Leaves)++[y123]) (Branch.mk y121.Key y121.Value y121.At y121.Kids) a0.Sessions),(Reply.mk (1:Int) (((([]:List ByteArray)++a0.Leaves)++[y123]).length:Int) y1.1.Value))
   else none
   else none
  else
  ob (spec_l07Put.m N (Branch.mk a0.Map.Key a0.Map.Value a0.Map.At a0.Map.Kids) a1.Key a1.Value) fun y124=>
  bif (room (([]:List ByteArray).length+a0.Leaves.length) 16) then
  ob (spec_l02Bytes.m N a1) fun y125=>
  ob (spec_l06Leaf.m N (strOf y125)) fun y126=>
  bif (room ((([]:List ByteArray)++a0.Leaves).length+([y126]).length) 16) then
  some ((Ledger.mk ((([]:List ByteArray)++a0.Leaves)++[y126]) (Branch.mk y124.Key y124.Value y124.At y124.Kids) a0.Sessions),(Reply.mk (1:Int) (((([]:List ByteArray)++a0.Leaves)++[y126]).length:Int) a1.Value))
  else none
  else none
 else
 bif (bif false then true else false) then
  some ((Ledger.mk a0.Leaves (Branch.mk a0.Map.Key a0.Map.Value a0.Map.At a0.Map.Kids) a0.Sessions),(Reply.mk (6:Int) (0:Int) ByteArray.empty))
 else
 bif (a1.Kind==(3:Int)) then
  ob (spec_l07Hash.m N a1.Key) fun y127=>
  ob (spec_l07Drop.m N (Branch.mk a0.Map.Key a0.Map.Value a0.Map.At a0.Map.Kids) y127 a1.Key) fun y128=>
  bif (room (([]:List ByteArray).length+a0.Leaves.length) 16) then
  ob (spec_l02Bytes.m N a1) fun y129=>
  ob (spec_l06Leaf.m N (strOf y129)) fun y130=>
  bif (room ((([]:List ByteArray)++a0.Leaves).length+([y130]).length) 16) then
  some ((Ledger.mk ((([]:List ByteArray)++a0.Leaves)++[y130]) (Branch.mk y128.Key y128.Value y128.At y128.Kids) a0.Sessions),(Reply.mk (1:Int) (((([]:List ByteArray)++a0.Leaves)++[y130]).length:Int) y1.1.Value))
  else none
  else none
 else
 ob (spec_l07Put.m N (Branch.mk a0.Map.Key a0.Map.Value a0.Map.At a0.Map.Kids) a1.Key a1.Value) fun y131=>
 bif (room (([]:List ByteArray).length+a0.Leaves.length) 16) then
 ob (spec_l02Bytes.m N a1) fun y132=>
 ob (spec_l06Leaf.m N (strOf y132)) fun y133=>
 bif (room ((([]:List ByteArray)++a0.Leaves).length+([y133]).length) 16) then
 some ((Ledger.mk ((([]:List ByteArray)++a0.Leaves)++[y133]) (Branch.mk y131.Key y131.Value y131.At y131.Kids) a0.Sessions),(Reply.mk (1:Int) (((([]:List ByteArray)++a0.Leaves)++[y133]).length:Int) a1.Value))
 else none
 else none
@[reducible] noncomputable def sp (N:Nat):Spec E:=⟨[.val (.st 39),.val (.st 31)],[(.st 39),(.st 27)],false,false,R,fun x=>m N x.1 x.2.1,fun r=>(r.1,r.2,()),fun r=>((),(),()),fun a b=>(a.1,a.2.1),fun _ _=>rfl,fun _ _=>rfl⟩
end spec_l09Change
namespace spec_l09Apply
abbrev R:=Ledger×Reply
noncomputable def m (N:Nat) (a0:Ledger) (a1:Command):Option R:=
 bif (decide (a1.Kind≥(4:Int))) then
  ob (spec_l09Open.m N (Ledger.mk a0.Leaves (Branch.mk a0.Map.Key a0.Map.Value a0.Map.At a0.Map.Kids) a0.Sessions) a1) fun y1=>
  some ((Ledger.mk y1.1.Leaves (Branch.mk y1.1.Map.Key y1.1.Map.Value y1.1.Map.At y1.1.Map.Kids) y1.1.Sessions),y1.2)
 else
 ob (spec_l09Session.m N a0.Sessions a1.Session) fun y2=>
 bif (decide (y2<(0:Int))) then
  some ((Ledger.mk a0.Leaves (Branch.mk a0.Map.Key a0.Map.Value a0.Map.At a0.Map.Kids) a0.Sessions),(Reply.mk (4:Int) (0:Int) ByteArray.empty))
 else
 bif (decide (0≤y2)) then
 bif (decide (y2<(a0.Sessions.length:Int))) then
 bif (a1.Seq==(a0.Sessions.getD (Int.toNat y2) Session.dz).Seq) then
  bif (decide (0≤y2)) then
  bif (decide (y2<(a0.Sessions.length:Int))) then
  bif (bif true then (decide ((a0.Sessions.getD (Int.toNat y2) Session.dz).Last.Kind > (0:Int))) else false) then
   bif (decide (0≤y2)) then
   bif (decide (y2<(a0.Sessions.length:Int))) then
   some ((Ledger.mk a0.Leaves (Branch.mk a0.Map.Key a0.Map.Value a0.Map.At a0.Map.Kids) a0.Sessions),(Reply.mk ((a0.Sessions.getD (Int.toNat y2) Session.dz).Last.Kind) ((a0.Sessions.getD (Int.toNat y2) Session.dz).Last.Place) ((a0.Sessions.getD (Int.toNat y2) Session.dz).Last.Value)))
   else none
   else none
  else
  bif (decide (0≤y2)) then
  bif (decide (y2<(a0.Sessions.length:Int))) then
  bif (decide (a1.Seq≤(a0.Sessions.getD (Int.toNat y2) Session.dz).Seq)) then
   some ((Ledger.mk a0.Leaves (Branch.mk a0.Map.Key a0.Map.Value a0.Map.At a0.Map.Kids) a0.Sessions),(Reply.mk (3:Int) (0:Int) ByteArray.empty))
  else
  ob (spec_l09Change.m N (Ledger.mk a0.Leaves (Branch.mk a0.Map.Key a0.Map.Value a0.Map.At a0.Map.Kids) a0.Sessions) a1) fun y3=>
  bif (room (([]:List Session).length+a0.Sessions.length) 48) then
  bif (decide (0≤y2)) then
  bif (decide (y2<((([]:List Session)++a0.Sessions).length:Int))) then
  (let w4:List Session:=((([]:List Session)++a0.Sessions).set (Int.toNat y2) (Session.mk (((([]:List Session)++a0.Sessions).getD (Int.toNat y2) Session.dz).Id) a1.Seq (Reply.mk (((([]:List Session)++a0.Sessions).getD (Int.toNat y2) Session.dz).Last.Kind) (((([]:List Session)++a0.Sessions).getD (Int.toNat y2) Session.dz).Last.Place) (((([]:List Session)++a0.Sessions).getD (Int.toNat y2) Session.dz).Last.Value))))
  bif (decide (0≤y2)) then
  bif (decide (y2<(w4.length:Int))) then
  some ((Ledger.mk y3.1.Leaves (Branch.mk y3.1.Map.Key y3.1.Map.Value y3.1.Map.At y3.1.Map.Kids) (w4.set (Int.toNat y2) (Session.mk ((w4.getD (Int.toNat y2) Session.dz).Id) ((w4.getD (Int.toNat y2) Session.dz).Seq) y3.2))),y3.2)
  else none
  else none)
  else none
  else none
  else none
  else none
  else none
  else none
  else none
 else
 bif (decide (0≤y2)) then
 bif (decide (y2<(a0.Sessions.length:Int))) then
 bif (decide (a1.Seq≤(a0.Sessions.getD (Int.toNat y2) Session.dz).Seq)) then
  some ((Ledger.mk a0.Leaves (Branch.mk a0.Map.Key a0.Map.Value a0.Map.At a0.Map.Kids) a0.Sessions),(Reply.mk (3:Int) (0:Int) ByteArray.empty))
 else
 ob (spec_l09Change.m N (Ledger.mk a0.Leaves (Branch.mk a0.Map.Key a0.Map.Value a0.Map.At a0.Map.Kids) a0.Sessions) a1) fun y5=>
 bif (room (([]:List Session).length+a0.Sessions.length) 48) then
 bif (decide (0≤y2)) then
 bif (decide (y2<((([]:List Session)++a0.Sessions).length:Int))) then
 (let w6:List Session:=((([]:List Session)++a0.Sessions).set (Int.toNat y2) (Session.mk (((([]:List Session)++a0.Sessions).getD (Int.toNat y2) Session.dz).Id) a1.Seq (Reply.mk (((([]:List Session)++a0.Sessions).getD (Int.toNat y2) Session.dz).Last.Kind) (((([]:List Session)++a0.Sessions).getD (Int.toNat y2) Session.dz).Last.Place) (((([]:List Session)++a0.Sessions).getD (Int.toNat y2) Session.dz).Last.Value))))
 bif (decide (0≤y2)) then
 bif (decide (y2<(w6.length:Int))) then
 some ((Ledger.mk y5.1.Leaves (Branch.mk y5.1.Map.Key y5.1.Map.Value y5.1.Map.At y5.1.Map.Kids) (w6.set (Int.toNat y2) (Session.mk ((w6.getD (Int.toNat y2) Session.dz).Id) ((w6.getD (Int.toNat y2) Session.dz).Seq) y5.2))),y5.2)
 else none
 else none)
 else none
 else none
 else none
 else none
 else none
 else none
 else none
@[reducible] noncomputable def sp (N:Nat):Spec E:=⟨[.val (.st 39),.val (.st 31)],[(.st 39),(.st 27)],false,false,R,fun x=>m N x.1 x.2.1,fun r=>(r.1,r.2,()),fun r=>((),(),()),fun a b=>(a.1,a.2.1),fun _ _=>rfl,fun _ _=>rfl⟩
end spec_l09Apply
namespace spec_l07Own
abbrev R:=Branch
@[reducible] noncomputable def spf (f:Branch→Option R):Spec E:=⟨[.val (.st 36)],[(.st 36)],true,false,R,fun x=>f x.1,fun r=>(r,()),fun r=>((),()),fun a b=>a.1,fun _ _=>rfl,fun _ _=>rfl⟩
end spec_l07Own
namespace spec_l07Own
inductive A3 where
 | s0 (v0:Int) (v5:ByteArray) (v6:ByteArray) (v7:Int)
 | s1 (v0:Int) (v5:ByteArray) (v6:ByteArray) (v7:Int) (v11:List Branch)
noncomputable def step3 (N:Nat) (slf:Branch→Option R) (a0:Branch) (rec:A3→Option R):A3→Option R
 | .s0 v0 v5 v6 v7=>
  bif (decide (v0<(a0.Kids.length:Int))) then
   bif (decide (0≤v0)) then
   bif (decide (v0<(a0.Kids.length:Int))) then
   ob (slf (Branch.mk ((a0.Kids.getD (Int.toNat v0) Branch.dz).Key) ((a0.Kids.getD (Int.toNat v0) Branch.dz).Value) ((a0.Kids.getD (Int.toNat v0) Branch.dz).At) ((a0.Kids.getD (Int.toNat v0) Branch.dz).Kids))) fun y1=>
   bif (room ([(Branch.mk y1.Key y1.Value y1.At y1.Kids)]).length 64) then
   rec (.s1 (w64 (v0+(1:Int))) v5 v6 v7 ([(Branch.mk y1.Key y1.Value y1.At y1.Kids)]))
   else none
   else none
   else none
  else
  some (Branch.mk a0.Key a0.Value a0.At ([]:List Branch))
 | .s1 v0 v5 v6 v7 v11=>
  bif (decide (v0<(a0.Kids.length:Int))) then
   bif (decide (0≤v0)) then
   bif (decide (v0<(a0.Kids.length:Int))) then
   ob (slf (Branch.mk ((a0.Kids.getD (Int.toNat v0) Branch.dz).Key) ((a0.Kids.getD (Int.toNat v0) Branch.dz).Value) ((a0.Kids.getD (Int.toNat v0) Branch.dz).At) ((a0.Kids.getD (Int.toNat v0) Branch.dz).Kids))) fun y2=>
   bif (room (v11.length+([(Branch.mk y2.Key y2.Value y2.At y2.Kids)]).length) 64) then
   rec (.s1 (w64 (v0+(1:Int))) v5 v6 v7 (v11++[(Branch.mk y2.Key y2.Value y2.At y2.Kids)]))
   else none
   else none
   else none
  else
  some (Branch.mk a0.Key a0.Value a0.At v11)
noncomputable def lp3 (N:Nat) (slf:Branch→Option R) (a0:Branch):A3→Option R:=
 miter (fun rec=>step3 N slf a0 rec) N
noncomputable def m0 (N:Nat) (slf:Branch→Option R) (a0:Branch) (lp3:A3→Option R):Option R:=
 lp3 (.s0 (0:Int) ByteArray.empty ByteArray.empty (0:Int))
@[reducible] noncomputable def mb (N:Nat) (slf:Branch→Option R) (a0:Branch):Option R:=m0 N slf a0 (lp3 N slf a0)
noncomputable def mF (N:Nat):Nat→Branch→Option R
 | 0=>fun _=>none
 | n+1=>fun a0=>mb N (mF N n) a0
noncomputable def m (N:Nat):Branch→Option R:=mF N N
@[reducible] noncomputable def sp (N:Nat):Spec E:=spf (m N)
end spec_l07Own
namespace spec_l09Own
abbrev R:=Ledger
noncomputable def m (N:Nat) (a0:Ledger):Option R:=
 bif (room (([]:List ByteArray).length+a0.Leaves.length) 16) then
 ob (spec_l07Own.m N (Branch.mk a0.Map.Key a0.Map.Value a0.Map.At a0.Map.Kids)) fun y1=>
 bif (room (([]:List Session).length+a0.Sessions.length) 48) then
 some (Ledger.mk (([]:List ByteArray)++a0.Leaves) (Branch.mk y1.Key y1.Value y1.At y1.Kids) (([]:List Session)++a0.Sessions))
 else none
 else none
@[reducible] noncomputable def sp (N:Nat):Spec E:=⟨[.val (.st 39)],[(.st 39)],true,false,R,fun x=>m N x.1,fun r=>(r,()),fun r=>((),()),fun a b=>a.1,fun _ _=>rfl,fun _ _=>rfl⟩
end spec_l09Own
namespace spec_ApplyAll
abbrev R:=Ledger×(List Reply)×Int
inductive A8 where
 | s0 (v1:Int) (v2:ByteArray) (v3:ByteArray) (v4:Int) (v5:ByteArray) (v6:ByteArray) (v7:Int) (v8:List Reply)
 | s1 (v1:Int) (v2:ByteArray) (v3:ByteArray) (v4:Int) (v5:List ByteArray) (v6:ByteArray) (v7:ByteArray) (v8:Int) (v9:List Branch) (v10:List Session) (v11:List Reply)
noncomputable def step8 (N:Nat) (a0:List Command) (rec:A8→Option R):A8→Option R
 | .s0 v1 v2 v3 v4 v5 v6 v7 v8=>
  bif (decide (v1<(a0.length:Int))) then
   bif (decide (0≤v1)) then
   bif (decide (v1<(a0.length:Int))) then
   ob (spec_CommandOK.m N (a0.getD (Int.toNat v1) Command.dz)) fun y1=>
   bif (!y1) then
    some ((Ledger.mk ([]:List ByteArray) (Branch.mk ByteArray.empty ByteArray.empty (0:Int) ([]:List Branch)) ([]:List Session)),([]:List Reply),(1:Int))
   else
   bif (decide (0≤v1)) then
   bif (decide (v1<(a0.length:Int))) then
   ob (spec_l09Apply.m N (Ledger.mk ([]:List ByteArray) (Branch.mk v5 v6 v7 ([]:List Branch)) ([]:List Session)) (a0.getD (Int.toNat v1) Command.dz)) fun y2=>
   bif (room (v8.length+([y2.2]).length) 32) then
   rec (.s1 (w64 (v1+(1:Int))) v2 v3 v4 y2.1.Leaves y2.1.Map.Key y2.1.Map.Value y2.1.Map.At y2.1.Map.Kids y2.1.Sessions (v8++[y2.2]))
   else none
   else none
   else none
   else none
   else none
  else
  ob (spec_l09Own.m N (Ledger.mk ([]:List ByteArray) (Branch.mk v5 v6 v7 ([]:List Branch)) ([]:List Session))) fun y3=>
  some ((Ledger.mk y3.Leaves (Branch.mk y3.Map.Key y3.Map.Value y3.Map.At y3.Map.Kids) y3.Sessions),v8,(0:Int))
 | .s1 v1 v2 v3 v4 v5 v6 v7 v8 v9 v10 v11=>
  bif (decide (v1<(a0.length:Int))) then
   bif (decide (0≤v1)) then
   bif (decide (v1<(a0.length:Int))) then
   ob (spec_CommandOK.m N (a0.getD (Int.toNat v1) Command.dz)) fun y4=>
   bif (!y4) then
    some ((Ledger.mk ([]:List ByteArray) (Branch.mk ByteArray.empty ByteArray.empty (0:Int) ([]:List Branch)) ([]:List Session)),([]:List Reply),(1:Int))
   else
   bif (decide (0≤v1)) then
   bif (decide (v1<(a0.length:Int))) then
   ob (spec_l09Apply.m N (Ledger.mk v5 (Branch.mk v6 v7 v8 v9) v10) (a0.getD (Int.toNat v1) Command.dz)) fun y5=>
   bif (room (v11.length+([y5.2]).length) 32) then
   rec (.s1 (w64 (v1+(1:Int))) v2 v3 v4 y5.1.Leaves y5.1.Map.Key y5.1.Map.Value y5.1.Map.At y5.1.Map.Kids y5.1.Sessions (v11++[y5.2]))
   else none
   else none
   else none
   else none
   else none
  else
  ob (spec_l09Own.m N (Ledger.mk v5 (Branch.mk v6 v7 v8 v9) v10)) fun y6=>
  some ((Ledger.mk y6.Leaves (Branch.mk y6.Map.Key y6.Map.Value y6.Map.At y6.Map.Kids) y6.Sessions),v11,(0:Int))
noncomputable def lp8 (N:Nat) (a0:List Command):A8→Option R:=
 miter (fun rec=>step8 N a0 rec) N
noncomputable def m0 (N:Nat) (a0:List Command) (lp8:A8→Option R):Option R:=
 bif (decide ((a0.length:Int) > (4096:Int))) then
  some ((Ledger.mk ([]:List ByteArray) (Branch.mk ByteArray.empty ByteArray.empty (0:Int) ([]:List Branch)) ([]:List Session)),([]:List Reply),(2:Int))
 else
 bif (decide ((a0.length:Int) > (120:Int))) then
  some ((Ledger.mk ([]:List ByteArray) (Branch.mk ByteArray.empty ByteArray.empty (0:Int) ([]:List Branch)) ([]:List Session)),([]:List Reply),(6:Int))
 else
 lp8 (.s0 (0:Int) ByteArray.empty ByteArray.empty (0:Int) ByteArray.empty ByteArray.empty (0:Int) ([]:List Reply))
@[reducible] noncomputable def m (N:Nat) (a0:List Command):Option R:=m0 N a0 (lp8 N a0)
@[reducible] noncomputable def sp (N:Nat):Spec E:=⟨[.val (.slice 31 (.st 31))],[(.st 39),(.slice 27 (.st 27)),(.int .i64)],true,false,R,fun x=>m N x.1,fun r=>(r.1,r.2.1,r.2.2,()),fun r=>((),()),fun a b=>(a.1,a.2.1,a.2.2.1),fun _ _=>rfl,fun _ _=>rfl⟩
end spec_ApplyAll
namespace impl_isHash_1
abbrev R:=Bool
noncomputable def m (N:Nat) (a0:ByteArray):Option R:=
 some ((a0.size:Int) != (32:Int))
@[reducible] noncomputable def sp (N:Nat):Spec E:=⟨[.val .str],[.bool],true,false,R,fun x=>m N x.1,fun r=>(r,()),fun r=>((),()),fun a b=>a.1,fun _ _=>rfl,fun _ _=>rfl⟩
end impl_isHash_1
namespace slices_IndexFunc_string_string__impl_isHash_1
abbrev R:=Int
noncomputable def step2 (N:Nat) (a0:List ByteArray) (rec:(Int×Int)→Option R):(Int×Int)→Option R
 | (v1,v2)=>
  bif (decide (v2<v1)) then
   bif (decide (0≤v2)) then
   bif (decide (v2<(a0.length:Int))) then
   ob (impl_isHash_1.m N (a0.getD (Int.toNat v2) ByteArray.empty)) fun y1=>
   bif y1 then
    some v2
   else
   rec (v1,(w64 (v2+(1:Int))))
   else none
   else none
  else
  some (-1:Int)
noncomputable def lp2 (N:Nat) (a0:List ByteArray):(Int×Int)→Option R:=
 miter (fun rec=>step2 N a0 rec) N
noncomputable def m0 (N:Nat) (a0:List ByteArray) (lp2:Int×Int→Option R):Option R:=
 lp2 ((a0.length:Int),(0:Int))
@[reducible] noncomputable def m (N:Nat) (a0:List ByteArray):Option R:=m0 N a0 (lp2 N a0)
@[reducible] noncomputable def sp (N:Nat):Spec E:=⟨[.val (.slice 9 .str),.clo 60 []],[(.int .i64)],true,false,R,fun x=>m N x.1,fun r=>(r,()),fun r=>((),(),()),fun a b=>a.1,fun _ _=>rfl,fun _ _=>rfl⟩
end slices_IndexFunc_string_string__impl_isHash_1
namespace slices_ContainsFunc_string_string__impl_isHash_1
abbrev R:=Bool
noncomputable def m (N:Nat) (a0:List ByteArray):Option R:=
 ob (slices_IndexFunc_string_string__impl_isHash_1.m N a0) fun y1=>
 some (decide (y1≥(0:Int)))
@[reducible] noncomputable def sp (N:Nat):Spec E:=⟨[.val (.slice 9 .str),.clo 60 []],[.bool],true,false,R,fun x=>m N x.1,fun r=>(r,()),fun r=>((),(),()),fun a b=>a.1,fun _ _=>rfl,fun _ _=>rfl⟩
end slices_ContainsFunc_string_string__impl_isHash_1
namespace impl_isHash
abbrev R:=Bool
noncomputable def m (N:Nat) (a0:List ByteArray):Option R:=
 ob (slices_ContainsFunc_string_string__impl_isHash_1.m N a0) fun y1=>
 some (!y1)
@[reducible] noncomputable def sp (N:Nat):Spec E:=⟨[.val (.slice 9 .str)],[.bool],true,false,R,fun x=>m N x.1,fun r=>(r,()),fun r=>((),()),fun a b=>a.1,fun _ _=>rfl,fun _ _=>rfl⟩
end impl_isHash
namespace impl_Branch_isEmpty
abbrev R:=Bool
noncomputable def m (N:Nat) (a0:Branch):Option R:=
 bif (seq a0.Key ByteArray.empty) then
  bif (bif true then (seq a0.Value ByteArray.empty) else false) then
   bif (bif true then (a0.At==(0:Int)) else false) then
    some (bif true then ((a0.Kids.length:Int)==(0:Int)) else false)
   else
   some false
  else
  some false
 else
 some false
@[reducible] noncomputable def sp (N:Nat):Spec E:=⟨[.val (.st 36)],[.bool],true,false,R,fun x=>m N x.1,fun r=>(r,()),fun r=>((),()),fun a b=>a.1,fun _ _=>rfl,fun _ _=>rfl⟩
end impl_Branch_isEmpty
namespace impl_within
abbrev R:=Bool
noncomputable def m (N:Nat) (a0:Int) (a1:Int) (a2:Int):Option R:=
 bif (decide (a0≥a1)) then
  some (bif true then (decide (a0≤a2)) else false)
 else
 some false
@[reducible] noncomputable def sp (N:Nat):Spec E:=⟨[.val (.int .i64),.val (.int .i64),.val (.int .i64)],[.bool],true,false,R,fun x=>m N x.1 x.2.1 x.2.2.1,fun r=>(r,()),fun r=>((),(),(),()),fun a b=>a.1,fun _ _=>rfl,fun _ _=>rfl⟩
end impl_within
namespace impl_isKey
abbrev R:=Bool
noncomputable def m (N:Nat) (a0:ByteArray):Option R:=
 ob (impl_within.m N (a0.size:Int) (1:Int) (24:Int)) fun y1=>
 some y1
@[reducible] noncomputable def sp (N:Nat):Spec E:=⟨[.val .str],[.bool],true,false,R,fun x=>m N x.1,fun r=>(r,()),fun r=>((),()),fun a b=>a.1,fun _ _=>rfl,fun _ _=>rfl⟩
end impl_isKey
namespace impl_isValue
abbrev R:=Bool
noncomputable def m (N:Nat) (a0:ByteArray):Option R:=
 some (decide ((a0.size:Int)≤(60:Int)))
@[reducible] noncomputable def sp (N:Nat):Spec E:=⟨[.val .str],[.bool],true,false,R,fun x=>m N x.1,fun r=>(r,()),fun r=>((),()),fun a b=>a.1,fun _ _=>rfl,fun _ _=>rfl⟩
end impl_isValue
namespace impl_Branch_isLeaf
abbrev R:=Bool
noncomputable def m (N:Nat) (a0:Branch):Option R:=
 bif (a0.At==(256:Int)) then
  ob (impl_isKey.m N a0.Key) fun y1=>
  bif (bif true then y1 else false) then
   ob (impl_isValue.m N a0.Value) fun y2=>
   bif (bif true then y2 else false) then
    some (bif true then ((a0.Kids.length:Int)==(0:Int)) else false)
   else
   some false
  else
  some false
 else
 some false
@[reducible] noncomputable def sp (N:Nat):Spec E:=⟨[.val (.st 36)],[.bool],true,false,R,fun x=>m N x.1,fun r=>(r,()),fun r=>((),()),fun a b=>a.1,fun _ _=>rfl,fun _ _=>rfl⟩
end impl_Branch_isLeaf
namespace strings_Repeat
abbrev R:=ByteArray
def rep (s:ByteArray) (n:Nat):ByteArray:=⟨((List.replicate n s.data.toList).flatten).toArray⟩
noncomputable def m (N:Nat) (a0:ByteArray) (a1:Int):Option R:=
 bif decide (0≤a1)&&decide (a1≤9223372036854775807)&&decide (a0.size * a1.toNat≤140737488355328) then some (rep a0 a1.toNat) else none
@[reducible] noncomputable def sp (N:Nat):Spec E:={ ps:=[.val .str,.val (.int .i64)],rs:=[.str],own:=true,dp:=false,R:=R,fn:=fun x=>m N x.1 x.2.1,res:=fun r=>(r,()),out:=fun r=>((),(),()),shut:=fun a b=>a.1,res_shut:=fun _ _=>rfl,out_shut:=fun _ _=>rfl }
end strings_Repeat
namespace impl_number
abbrev R:=ByteArray
noncomputable def step3 (N:Nat) (a0:Int) (a1:Int) (rec:(Int×Int×(List Int))→Option R):(Int×Int×(List Int))→Option R
 | (v0,v1,v2)=>
  bif (decide (v1≥(0:Int))) then
   bif (decide (0≤v1)) then
   bif (decide (v1<(v2.length:Int))) then
   bif (!decide ((8:Int)<0)) then
   rec ((Int.fdiv v0 (2 ^ (min (Int.toNat (8:Int)) 64))),(w64 (v1 - (1:Int))),(v2.set (Int.toNat v1) (wu8 v0)))
   else none
   else none
   else none
  else
  some (strOf v2)
noncomputable def lp3 (N:Nat) (a0:Int) (a1:Int):(Int×Int×(List Int))→Option R:=
 miter (fun rec=>step3 N a0 a1 rec) N
noncomputable def m0 (N:Nat) (a0:Int) (a1:Int) (lp3:Int×Int×(List Int)→Option R):Option R:=
 bif (decide (0≤a1)) then
 bif (room (Int.toNat a1) 1) then
 lp3 (a0,(w64 (a1 - (1:Int))),(List.replicate (Int.toNat a1) (0:Int)))
 else none
 else none
@[reducible] noncomputable def m (N:Nat) (a0:Int) (a1:Int):Option R:=m0 N a0 a1 (lp3 N a0 a1)
@[reducible] noncomputable def sp (N:Nat):Spec E:=⟨[.val (.int .i64),.val (.int .i64)],[.str],true,false,R,fun x=>m N x.1 x.2.1,fun r=>(r,()),fun r=>((),(),()),fun a b=>a.1,fun _ _=>rfl,fun _ _=>rfl⟩
end impl_number
namespace impl_hashWords
abbrev R:=(List Int)
noncomputable def m (N:Nat):Option R:=
 (let w1:List Int:=[(1779033703:Int),(3144134277:Int),(1013904242:Int),(2773480762:Int),(1359893119:Int),(2600822924:Int),(528734635:Int),(1541459225:Int)]
 some w1)
@[reducible] noncomputable def sp (N:Nat):Spec E:=⟨[],[(.arr .u32 8)],true,false,R,fun x=>m N,fun r=>(r,()),fun r=>(),fun a b=>a.1,fun _ _=>rfl,fun _ _=>rfl⟩
end impl_hashWords
namespace impl_roundWords
abbrev R:=(List Int)
noncomputable def m (N:Nat):Option R:=
 (let w1:List Int:=[(1116352408:Int),(1899447441:Int),(3049323471:Int),(3921009573:Int),(961987163:Int),(1508970993:Int),(2453635748:Int),(2870763221:Int),(3624381080:Int),(310598401:Int),(607225278:Int),(1426881987:Int),(1925078388:Int),(2162078206:Int),(2614888103:Int),(3248222580:Int),(3835390401:Int),(4022224774:Int),(264347078:Int),(604807628:Int),(770255983:Int),(1249150122:Int),(1555081692:Int),(1996064986:Int),(2554220882:Int),(2821834349:Int),(2952996808:Int),(3210313671:Int),(3336571891:Int),(3584528711:Int),(113926993:Int),(338241895:Int),(666307205:Int),(773529912:Int),(1294757372:Int),(1396182291:Int),(1695183700:Int),(1986661051:Int),(2177026350:Int),(2456956037:Int),(2730485921:Int),(2820302411:Int),(3259730800:Int),(3345764771:Int),(3516065817:Int),(3600352804:Int),(4094571909:Int),(275423344:Int),(430227734:Int),(506948616:Int),(659060556:Int),(883997877:Int),(958139571:Int),(1322822218:Int),(1537002063:Int),(1747873779:Int),(1955562222:Int),(2024104815:Int),(2227730452:Int),(2361852424:Int),(2428436474:Int),(2756734187:Int),(3204031479:Int),(3329325298:Int)]
 some w1)
@[reducible] noncomputable def sp (N:Nat):Spec E:=⟨[],[(.arr .u32 64)],true,false,R,fun x=>m N,fun r=>(r,()),fun r=>(),fun a b=>a.1,fun _ _=>rfl,fun _ _=>rfl⟩
end impl_roundWords
namespace math_bits_RotateLeft32
abbrev R:=Int
noncomputable def m (N:Nat) (a0:Int) (a1:Int):Option R:=
 bif (!decide ((ibit .and .u64 (wu64 a1) (31:Int))<0)) then
 bif (!decide ((wu64 ((32:Int) - (ibit .and .u64 (wu64 a1) (31:Int))))<0)) then
 (let w1:Int:=(ibit .or .u32 (wu32 (a0 * 2 ^ (min (Int.toNat (ibit .and .u64 (wu64 a1) (31:Int))) 32))) (Int.fdiv a0 (2 ^ (min (Int.toNat (wu64 ((32:Int) - (ibit .and .u64 (wu64 a1) (31:Int))))) 32))))
 some w1)
 else none
 else none
@[reducible] noncomputable def sp (N:Nat):Spec E:=⟨[.val (.int .u32),.val (.int .i64)],[(.int .u32)],true,false,R,fun x=>m N x.1 x.2.1,fun r=>(r,()),fun r=>((),(),()),fun a b=>a.1,fun _ _=>rfl,fun _ _=>rfl⟩
end math_bits_RotateLeft32
namespace impl_turned
abbrev R:=Int
noncomputable def m (N:Nat) (a0:Int) (a1:Int):Option R:=
 ob (math_bits_RotateLeft32.m N a0 (w64 (0 - a1))) fun y1=>
 some y1
@[reducible] noncomputable def sp (N:Nat):Spec E:=⟨[.val (.int .u32),.val (.int .i64)],[(.int .u32)],true,false,R,fun x=>m N x.1 x.2.1,fun r=>(r,()),fun r=>((),(),()),fun a b=>a.1,fun _ _=>rfl,fun _ _=>rfl⟩
end impl_turned
end Mir.Y
