/- Part of the proof. -/
import Derived.Test.YtcgniikapdcfmaaGreatProg
import Derived.Test.YtcgniikapdcfmaaGreatEngD
import Derived.Shelf.RegionOpenPlain
import Derived.WalkKit
import Derived.Lib.Walk
import Derived.Lib.SliceRun
import Derived.Laws.Externs
set_option linter.unusedVariables false
set_option linter.unusedSimpArgs false
namespace Go.Proofs
open Go.Shelf Go.RowKit Go.Lib
namespace DelW54
open Mir
set_option maxHeartbeats 4000000 in
set_option maxRecDepth 100000 in
theorem del (W W1 W2:World) (g n c i j:Nat) (hi:i<j) (hj:j≤n) (hnc:n≤c) (hm:c≤9223372036854775807)
  (h1:∀ty,(Builtin.append_ #[25,25] ty #[.slice (some ⟨g,0,none⟩) i c,.slice (some (if c=j then ⟨g,0,none⟩ else ⟨g,j * 9,none⟩)) (n - j) (c - j)]).run Tryz.prog W.drew = .ok (.slice (some ⟨g,0,none⟩) (i+(n - j)) c) W1)
  (h2:∀ty,(Builtin.clear_ #[25] ty #[.slice (some ⟨g,(i+(n - j)) * 9,none⟩) (n - (i+(n - j))) (c - (i+(n - j)))]).run Tryz.prog W1 = .ok (.tuple #[]) W2) :
  Calls Tryz.prog 54 #[.slice (some ⟨g,0,none⟩) n c,.int .i64 i,.int .i64 j] W fun e w'=>e = .returned (.slice (some ⟨g,0,none⟩) (i+(n - j)) c)∧w'=W2:=by
 have hz2:¬ ((i:Int)=(j:Int)):=by omega
 have hin:i≤n:=by omega
 have hij:i≤j:=by omega
 have hic:i≤c:=by omega
 have hni:¬ (n=i):=by omega
 have hci:¬ (c=i):=by omega
 have hcl:¬ (c=i+(n - j)):=by omega
 have hln:i+(n - j)≤n:=by omega
 have hw1:((i+(n - j):Nat):Int)=(i:Int)+((n:Int) - (j:Int)):=by omega
 have mixed:Tryz.prog.follows .mixedOrders=true:=by kernel_rfl
 by_cases hcj:c=j
 ·subst hcj
  have hn:n=c:=by omega
  subst hn
  rw [if_pos rfl] at h1
  simp only [Nat.sub_self,Nat.add_zero] at h1 h2 hcl hln ⊢
  clear hw1
  go_enter Tryz.func54,Tryz.ntmps54
  go_wp2
  go_region_law_o (refine step_append_run rfl _ _ 25 25 rfl (.slice (some ⟨g,0,none⟩) i n) (.slice (some ⟨g,0,none⟩) 0 0) (by simp [Act.eval,Act.put]) (by simp [Act.eval,Act.put]) (h1 _) ?_)
  go_wp2_with (at_builtin;refine wpList_clear_run rfl _ 25 rfl _ rfl (h2 _) ?_)
  go_ret
  exact ⟨rfl,rfl⟩
 ·rw [if_neg hcj] at h1
  go_enter Tryz.func54,Tryz.ntmps54
  go_wp2
  go_region_law_o (refine step_append_run rfl _ _ 25 25 rfl (.slice (some ⟨g,0,none⟩) i c) (.slice (some ⟨g,j * 9,none⟩) (n - j) (c - j)) (by simp [Act.eval,Act.put]) (by simp [Act.eval,Act.put]) (h1 _) ?_)
  go_wp2_with (at_builtin;refine wpList_clear_run rfl _ 25 rfl _ rfl (h2 _) ?_)
  go_ret
  exact ⟨rfl,rfl⟩
end DelW54
end Go.Proofs
