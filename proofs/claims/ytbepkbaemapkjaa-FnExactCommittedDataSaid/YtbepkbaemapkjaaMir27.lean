/- The mirror machine: words for written models. -/
import Derived.Test.YtbepkbaemapkjaaMir26
namespace Mir
set_option linter.unusedVariables false
open Go
variable {E : Env} {P : Program} {R : Type}
/-- Specifications by function and closures. -/
def gam : List (Nat × List Nat × Spec E) → Ctx E
  | [] => fun _ _ => none
  | (g, c, s) :: r => fun f cl => bif Nat.beq g f && natsEq c cl then some s else gam r f cl
def GamL (P : Program) : List (Nat × List Nat × Spec E) → Prop
  | [] => True
  | (g, _, s) :: r => Sound P E g s ∧ GamL P r
theorem gam_ok : ∀ {l : List (Nat × List Nat × Spec E)}, GamL P l → GamOK P (gam l)
  | [], _ => fun f cl s h => by cases h
  | (g, c, s) :: r, ⟨h1, h2⟩ => fun f cl s' h => by
    unfold gam at h
    cases hb : (Nat.beq g f && natsEq c cl) with
    | true =>
      rw [hb, cond_true] at h
      cases h
      simp only [Bool.and_eq_true] at hb
      rw [← Nat.eq_of_beq_eq_true hb.1]
      exact h1
    | false => rw [hb] at h; exact gam_ok h2 f cl s' h
def codeAt : Code → List Nat → Code
  | .seq a _, 0 :: r => codeAt a r
  | .seq _ b, 1 :: r => codeAt b r
  | .cond _ a _, 0 :: r => codeAt a r
  | .cond _ _ b, 1 :: r => codeAt b r
  | .block _ a, 0 :: r => codeAt a r
  | .loop a, 0 :: r => codeAt a r
  | c, _ => c
noncomputable def kAt (T : Tb) (Γ : Ctx E) (loops cuts : Live) (o : Orc E R) : Code → List Nat → KT E R → KT E R
  | .seq a b, 0 :: r, K => kAt T Γ loops cuts o a r (kseq (fun S K => match (keyOf b).bind (lk cuts) with
      | some live => o b K (S.norm live)
      | none => runA T Γ loops cuts o b S K) K)
  | .seq _ b, 1 :: r, K => kAt T Γ loops cuts o b r K
  | .cond _ a _, 0 :: r, K => kAt T Γ loops cuts o a r K
  | .cond _ _ b, 1 :: r, K => kAt T Γ loops cuts o b r K
  | .block id a, 0 :: r, K => kAt T Γ loops cuts o a r (kblock id K)
  | _, _, K => K
theorem orc_loop {T : Tb} {Γ : Ctx E} {loops cuts : Live} {k d : Nat} {b : Code} {live : List Nat} {K : KT E R} {S : St E} (h : (keyOf b).bind (lk loops) = some live) :
    orc T Γ loops cuts k (d + 1) (.loop b) K S = iter (fun rec S => runA T Γ loops cuts (orc T Γ loops cuts k d) b S (kloop live rec K)) k S := by
  simp only [orc, h]
def miter {α : Type} (step : (α → Option R) → α → Option R) : Nat → α → Option R
  | 0, _ => none
  | n + 1, a => step (miter step n) a
theorem iter_eq {α : Type} (St : α → St E) (step : (Mir.St E → Option R) → Mir.St E → Option R) (mstep : (α → Option R) → α → Option R) (h : ∀ rec a, step rec (St a) = mstep (fun a => rec (St a)) a) : ∀ k a, iter step k (St a) = miter mstep k a
  | 0, _ => rfl
  | k + 1, a => (h (iter step k) a).trans (congrFun (congrArg mstep (funext fun a => iter_eq St step mstep h k a)) a)
def tbOf (P : Program) : Tb := { deep := false, und := P.underlying, size := fun t => (P.info? t).map (·.size), bytes := fun t => (P.info? t).map (·.bytes), zero := fun t => (P.info? t).bind (·.zero), eqt := fun t => !P.stoodInHeld t && !P.eqGuardType P.depth t }
theorem tbOf_ok (P : Program) : (tbOf P).OK P := ⟨fun _ _ h => h, fun _ _ h => h, fun _ _ h => h, fun _ _ h => h, fun t h => by
  have h : (!P.stoodInHeld t && !P.eqGuardType P.depth t) = true := h
  simpa using h⟩
/-- New rows own their elements' rows. -/
def tbOfD (P : Program) : Tb := { deep := true, und := P.underlying, size := fun t => (P.info? t).map (·.size), bytes := fun t => (P.info? t).map (·.bytes), zero := fun t => (P.info? t).bind (·.zero), eqt := fun t => !P.stoodInHeld t && !P.eqGuardType P.depth t }
theorem tbOfD_ok (P : Program) : (tbOfD P).OK P := ⟨fun _ _ h => h, fun _ _ h => h, fun _ _ h => h, fun _ _ h => h, fun t h => by
  have h : (!P.stoodInHeld t && !P.eqGuardType P.depth t) = true := h
  simpa using h⟩
/-- A specification that says nothing. -/
theorem sound_none {f : FuncId} {fn : Func} {c : Code} (hf : P.funcs[f]? = some fn) (hb : fn.body = some c) (hname : (fn.name == "runtime.NumGoroutine") = false) (s : Spec E) (h : ∀ x, s.fn x = none) : Sound P E f s :=
  ⟨fun args W => run_callFunc_go hf hname hb args W, fun W F x r args fp hfn => by rw [h x] at hfn; cases hfn⟩
/-- What a struct type's cells are. -/
structure SD where
  S : Type
  dz : S
structure LD (S : Nat → Type) (n : Nat) where
  fl : List Ty
  opn : S n → HT S fl
  shut : HT S fl → S n
  opn_shut : ∀ h, opn (shut h) = h
  pos : 0 < fl.length
def ob {α β : Type} (m : Option α) (f : α → Option β) : Option β := match m with
  | some y => f y
  | none => none
abbrev w64 (n : Int) : Int := IntKind.wrap .i64 n
abbrev wu64 (n : Int) : Int := IntKind.wrap .u64 n
abbrev wu32 (n : Int) : Int := IntKind.wrap .u32 n
abbrev wu8 (n : Int) : Int := IntKind.wrap .u8 n
end Mir
