/- Part of the proof. -/
import Derived.Test.YtcgniikapdcfmaaGreatProg
import Derived.Test.YtcgniikapdcfmaaGreatEngD
import Derived.Shelf.RegionOpenPlain
import Derived.WalkKit
import Derived.Lib.Walk
import Derived.Lib.SliceRun
import Derived.Laws.Externs
import Derived.Lib.Overlaps
set_option linter.unusedVariables false
set_option linter.unusedSimpArgs false
namespace Go.Proofs
open Go.Shelf Go.RowKit Go.Lib
namespace InsW97
open Mir
set_option maxHeartbeats 4000000 in
set_option maxRecDepth 100000 in
theorem at_end (W W1:World) (base base':Option Addr) (n c c' vb vc:Nat) (hc63:c≤9223372036854775807) (hnc:n≤c)
  (hrun:∀ty,(Builtin.append_ #[30,30] ty #[.slice base n c,.slice (some ⟨vb,0,none⟩) 1 vc]).run Tryz.prog W = .ok (.slice base' (n+1) c') W1) :
  Calls Tryz.prog 97 #[.slice base n c,.int .i64 n,.slice (some ⟨vb,0,none⟩) 1 vc] W fun e w'=>e = .returned (.slice base' (n+1) c')∧w'=W1:=by
 go_enter Tryz.func97,Tryz.ntmps97
 go_wp2_with (at_builtin;refine wpList_append_run _ rfl _ _ _ _ rfl _ _ rfl rfl _ _ (hrun _) ?_)
 all_goals (go_ret;exact ⟨rfl,rfl⟩)
set_option maxHeartbeats 4000000 in
set_option maxRecDepth 100000 in
theorem grow (W W1 W2 W3:World) (g N n c c' i vb vc:Nat) (hi:i<n) (hnc:n≤c) (hc:c<n+1) (hc63:n+1≤281474976710656) (hc':n+1≤c') (hm:c'≤9223372036854775807)
  (h1:∀ty,(Builtin.append_ #[30,3] ty #[.slice (some ⟨g,0,none⟩) i c,.int .i64 ((n:Int)+1 - i)]).run Tryz.prog W = .ok (.slice (some ⟨N,0,none⟩) (n+1) c') W1)
  (h2:∀ty,(Builtin.copy_ #[30,30] ty #[.slice (some ⟨N,i * 1,none⟩) (n+1 - i) (c' - i),.slice (some ⟨vb,0,none⟩) 1 vc]).run Tryz.prog W1 = .ok (.int .i64 1) W2)
  (h3:∀ty,(Builtin.copy_ #[30,30] ty #[.slice (some ⟨N,(i+1) * 1,none⟩) (n+1 - (i+1)) (c' - (i+1)),.slice (some ⟨g,i * 1,none⟩) (n - i) (c - i)]).run Tryz.prog W2.drew = .ok (.int .i64 ((n - i:Nat):Int)) W3) :
  Calls Tryz.prog 97 #[.slice (some ⟨g,0,none⟩) n c,.int .i64 i,.slice (some ⟨vb,0,none⟩) 1 vc] W fun e w'=>e = .returned (.slice (some ⟨N,0,none⟩) (n+1) c')∧w'=W3:=by
 simp only [Nat.mul_one] at h2 h3
 have hz2:¬ ((i:Int)=(n:Int)):=by omega
 have hz3:(c:Int)<(n:Int)+1:=by omega
 have hin:i≤n:=by omega
 have hb1:(0:Int)≤(i:Int)+1:=by omega
 have hci:¬ (c=i):=by omega
 have hGi:¬ (c'=i):=by omega
 have hGim:¬ (c'=i+1):=by omega
 have htn:((i:Int)+1).toNat=i+1:=by omega
 have hw1:IntKind.i64.wrap ((i:Int)+1)=(i:Int)+1:=by rw [IntKind.wrap_i64];omega
 have hw2:IntKind.i64.wrap ((n:Int)+1)=(n:Int)+1:=by rw [IntKind.wrap_i64];omega
 have hw3:IntKind.i64.wrap ((n:Int)+1 - i)=(n:Int)+1 - i:=by rw [IntKind.wrap_i64];omega
 have mixed:Tryz.prog.follows .mixedOrders=true:=by kernel_rfl
 go_enter Tryz.func97,Tryz.ntmps97
 go_wp2_with (first
  | (at_builtin;refine wpList_append_run _ rfl _ _ _ _ rfl _ _ rfl rfl _ _ (h1 _) ?_)
  | (at_builtin;refine wpList_copy_run rfl _ _ 30 30 rfl _ _ rfl rfl (h2 _) ?_))
 go_region_law_o (refine step_copy_run rfl _ _ 30 30 rfl (.slice (some ⟨N,(i+1),none⟩) (n+1 - (i+1)) (c' - (i+1))) (.slice (some ⟨g,i,none⟩) (n - i) (c - i)) (by simp [Act.eval,Act.put]) (by simp [Act.eval,Act.put]) (h3 _) ?_)
 go_wp2
 go_ret
 exact ⟨rfl,rfl⟩
set_option maxHeartbeats 4000000 in
set_option maxRecDepth 100000 in
theorem shift (W W2 W3:World) (g n c i vb vc:Nat) (hi:i<n) (hc:n+1≤c) (hm:c≤9223372036854775807)
  (h0:(callFunc 107 #[.slice (some ⟨vb,0,none⟩) 1 vc,.slice (some ⟨g,(i+1) * 1,none⟩) (n - i) (c - (i+1))]).run Tryz.prog W = .ok (.value (.bool false)) W)
  (h2:∀ty,(Builtin.copy_ #[30,30] ty #[.slice (some ⟨g,(i+1) * 1,none⟩) (n+1 - (i+1)) (c - (i+1)),.slice (some ⟨g,i * 1,none⟩) (n+1 - i) (c - i)]).run Tryz.prog W.drew = .ok (.int .i64 ((n - i:Nat):Int)) W2)
  (h3:∀ty,(Builtin.copy_ #[30,30] ty #[.slice (some ⟨g,i * 1,none⟩) (n+1 - i) (c - i),.slice (some ⟨vb,0,none⟩) 1 vc]).run Tryz.prog W2 = .ok (.int .i64 1) W3) :
  Calls Tryz.prog 97 #[.slice (some ⟨g,0,none⟩) n c,.int .i64 i,.slice (some ⟨vb,0,none⟩) 1 vc] W fun e w'=>e = .returned (.slice (some ⟨g,0,none⟩) (n+1) c)∧w'=W3:=by
 simp only [Nat.mul_one] at h2 h3 h0
 have hz2:¬ ((i:Int)=(n:Int)):=by omega
 have hz3:¬ ((c:Int)<(n:Int)+1):=by omega
 have hin:i≤n:=by omega
 have hb1:(0:Int)≤(i:Int)+1:=by omega
 have hb0:(0:Int)≤(n:Int)+1:=by omega
 have hb3:(i:Int)≤(n:Int)+1:=by omega
 have hb5:(n:Int)+1≤(c:Int):=by omega
 have hci:¬ (c=i):=by omega
 have hci1:¬ (c=i+1):=by omega
 have htn:((i:Int)+1).toNat=i+1:=by omega
 have htn2:((n:Int)+1).toNat=n+1:=by omega
 have hw1:IntKind.i64.wrap ((i:Int)+1)=(i:Int)+1:=by rw [IntKind.wrap_i64];omega
 have hw2:IntKind.i64.wrap ((n:Int)+1)=(n:Int)+1:=by rw [IntKind.wrap_i64];omega
 have mixed:Tryz.prog.follows .mixedOrders=true:=by kernel_rfl
 go_enter Tryz.func97,Tryz.ntmps97
 go_wp2_with (simp only [h0])
 go_region_law_o (refine step_copy_run rfl _ _ 30 30 rfl (.slice (some ⟨g,(i+1),none⟩) (n+1 - (i+1)) (c - (i+1))) (.slice (some ⟨g,i,none⟩) (n+1 - i) (c - i)) (by simp [Act.eval,Act.put]) (by simp [Act.eval,Act.put]) (h2 _) ?_)
 go_wp2_with (at_builtin;refine wpList_copy_run rfl _ _ 30 30 rfl _ _ rfl rfl (h3 _) ?_)
 go_ret
 exact ⟨rfl,rfl⟩
theorem sizeE (W:World):(Go.sizeOf 3).run Tryz.prog W = .ok 1 W:=by
 have h:Tryz.prog.info? 3=some Tryz.t3:=by kernel_rfl
 simp [Go.sizeOf,typeInfo,h,Tryz.t3]
theorem ov (W : World) (vb g off la ca lb cb : Nat) (tA tB kA kB : Nat) (hne : vb ≠ g) (hsa : W.shape? vb = some (tA, kA)) (hsb : W.shape? g = some (tB, kB)) (hkB : kB ≠ 0) (hfa : W.frozen? ⟨vb, 0, none⟩ = false) (hfe : W.frozen? ⟨vb, kA, none⟩ = false) :
      (callFunc 107 #[.slice (some ⟨vb, 0, none⟩) la ca, .slice (some ⟨g, off, none⟩) lb cb]).run Tryz.prog W = .ok (.value (.bool false)) W := by
 rw [run_callFunc_extern Tryz.func107 (by kernel_rfl) (by kernel_rfl) (by kernel_rfl) (e:=Extern.SlicesOverlaps.overlaps #[30,30] #[4]) (by kernel_rfl),
  Lib.run_overlaps_apart W 30 4 3 Tryz.underlying30 1 sizeE ⟨vb,0,none⟩ ⟨g,off,none⟩ la ca lb cb hne tA tB kA kB hsa hsb hkB hfa hfe]
 rfl
end InsW97
end Go.Proofs
