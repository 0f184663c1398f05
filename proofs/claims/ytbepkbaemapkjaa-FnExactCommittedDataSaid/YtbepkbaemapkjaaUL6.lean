/- Pure laws: what a group's rows in memory are; GroupOK, LogsMatch. -/
import Derived.Test.YtbepkbaemapkjaaUL5
namespace Mir.Y
set_option linter.unusedVariables false
set_option linter.unusedSimpArgs false
open Go
theorem wfGroup {x : Group} (h : ∃ n, WfE E (WfA E n) (.st 27) x) : GroupWf x := by
  obtain ⟨n, h⟩ := h
  cases n with
  | zero => exact h.1.elim
  | succ n =>
    obtain ⟨h1, h2, h3, h4, _⟩ := h
    refine ⟨h1.1, fun y hy => ?_, h2.1, fun y hy => ?_, h3.1, fun y hy => ?_, h4.1, fun y hy => wfText (h4.2 y hy).2.2.2.2.2.1⟩
    · have hw := h1.2 y hy
      cases n with
      | zero => exact hw.2.2.2.1.elim
      | succ n =>
        obtain ⟨_, _, _, h4, h5, _, h7, h8, h9, _⟩ := hw
        exact ⟨h4.1, fun e he => wfText (h4.2 e he).2.2.1, h5.1, h7.1, h8.1, h9.1⟩
    · have hw := h2.2 y hy
      cases n with
      | zero => exact hw.2.2.2.2.2.2.2.1.elim
      | succ n => exact ⟨hw.2.2.2.2.2.2.2.1.1, fun e he => wfText (hw.2.2.2.2.2.2.2.1.2 e he).2.2.1⟩
    · have hw := h3.2 y hy
      cases n with
      | zero => exact hw.2.2.1.elim
      | succ n => exact ⟨hw.2.2.1.1, fun e he => wfText (hw.2.2.1.2 e he).2.2.1⟩
theorem groupEta (x : Group) : Group.mk x.Nodes x.Wire x.Leads x.Dones = x := rfl
/-! ### LogsMatch -/
def eqE (x y : Entry) : Bool := (x.Term == y.Term) && ((x.Kind == y.Kind) && (seq x.Data y.Data))
/-- Counting down: the place behind the last index below n where the terms agree. -/
def lastT (a b : List Entry) : Nat → Nat
  | 0 => 0
  | n + 1 => bif (ex a n).Term != (ex b n).Term then lastT a b n else n + 1
theorem lastT_le (a b : List Entry) : ∀ n, lastT a b n ≤ n
  | 0 => Nat.le_refl _
  | n + 1 => by
    unfold lastT
    cases (ex a n).Term != (ex b n).Term with
    | true => exact Nat.le_succ_of_le (lastT_le a b n)
    | false => exact Nat.le_refl _
def sameB (a b : List Entry) (n : Nat) : Bool := allF (fun i => eqE (ex a i) (ex b i)) 0 n
def matchB (a b : List Entry) : Bool := sameB a b (lastT a b (min a.length b.length))
theorem min_int (a b : Nat) : (if (b : Int) < (a : Int) then (b : Int) else (a : Int)) = ((min a b : Nat) : Int) := by
  split <;> omega
/-! ### All pairs -/
def pairsB (p : Nat → Nat → Bool) (n : Nat) : Bool := allF (fun i => allF (p i) 0 i) 0 n
def mP (a : List Node) (i j : Nat) : Bool := matchB (nx a i).Log (nx a j).Log
end Mir.Y
