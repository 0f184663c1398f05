/- Pure laws: marks of ledgers; SnapshotBytes. -/
import Derived.Test.YtmjmhkpkmejbnaaGreatQSTA
namespace Mir.Y
set_option linter.unusedVariables false
set_option linter.unusedSimpArgs false
open Go
set_option linter.unusedSectionVars false
variable [UU]
noncomputable def snR (n:Nat) (x:Ledger):List Int×Int:=bif ledB n x then (snap n x,0) else ([],1)
theorem snC_by (lv:List ByteArray) (ls:List Branch) (ss:List Session) (i:Nat):isBy (snC lv ls ss i):=by
 have one:∀x,isBy [wu8 x]:=fun x y hy=>by rw [List.mem_singleton] at hy;subst hy;exact wu8_range x
 have app:∀ {a b:List Int},isBy a→isBy b→isBy (a++b):=fun ha hb y hy=>(List.mem_append.1 hy).elim (ha y) (hb y)
 have flat:∀ {α:Type} (g:α→List Int) (l:List α),(∀x,isBy (g x))→isBy (l.flatMap g):=fun g l h y hy=>by
  obtain ⟨x,_,hx⟩:=List.mem_flatMap.1 hy
  exact h x y hx
 have two:∀x z,isBy [wu8 x,wu8 z]:=fun x z=>app (a:=[wu8 x]) (one x) (one z)
 have three:∀x z w,isBy [wu8 x,wu8 z,wu8 w]:=fun x z w=>app (a:=[wu8 x]) (one x) (two z w)
 have gp:∀x,isBy (gP x):=fun x=>app (app (app (one _) (bytesOf_by _)) (one _)) (bytesOf_by _)
 have gs:∀x,isBy (gS x):=fun x=>app (app (app (two _ _) (two _ _)) (three _ _ _)) (bytesOf_by _)
 exact app (app (app (app (app (one _) (flat _ _ bytesOf_by)) (one _)) (flat _ _ gp)) (one _)) (flat _ _ gs)
theorem specSB {N:Nat} (hN:Big N) {n:Nat} (hn:n≤N) (x:Ledger) (h:LedOK n x):spec_SnapshotBytes.m N x=some (snR n x):=by
 unfold spec_SnapshotBytes.m snR
 rw [ledEta,specLed hN hn x h,ob_some]
 cases hk:ledB n x with
 | false=>rfl
 | true=>rw [specSnap hN hn x hk];rfl
theorem implSB {N:Nat} (hN:Big N) {n:Nat} (hn:n≤N) (x:Ledger) (h:LedOK n x):impl_SnapshotBytes.m N x=some (snR n x):=by
 unfold impl_SnapshotBytes.m snR
 rw [ledEta,implLed hN hn x h,ob_some]
 cases hk:ledB n x with
 | false=>rfl
 | true=>
  have hl:=snC_len (ledSn hk).2 x.Sessions.length
  have hs:(strOf (snap n x)).size≤10000:=by rw [strOf_size];unfold snap;omega
  rw [implSnap hN hn x h hk]
  simp only [Bool.not_true,cond_false,ob_some,cond_true]
  rw [roomS (by omega),cond_true,strOf_bytes (snap n x) (snC_by _ _ _ _)]
end Mir.Y
