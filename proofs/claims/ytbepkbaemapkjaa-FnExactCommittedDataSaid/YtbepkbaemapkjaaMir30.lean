/- Plain words for pure laws: loops, wrapping. -/
import Derived.Test.YtbepkbaemapkjaaMir29
namespace Mir
set_option linter.unusedVariables false
open Go
theorem w64_eq {n : Int} (h1 : -9223372036854775808 ≤ n) (h2 : n < 9223372036854775808) : w64 n = n := by
  simp only [w64, IntKind.wrap, IntKind.bits, IntKind.signed]
  simp
  omega
@[simp] theorem ob_some {α β : Type} (x : α) (f : α → Option β) : ob (some x) f = f x := rfl
@[simp] theorem ob_none {α β : Type} (f : α → Option β) : ob none f = none := rfl
/-- A loop that counts up and has no other way out. -/
theorem miter_up {α R : Type} {step : (α → Option R) → α → Option R} {n : Nat} {st : Nat → α} {r : Option R} (hstep : ∀ i, i < n → ∀ rec, step rec (st i) = rec (st (i + 1))) (hend : ∀ rec, step rec (st n) = r) : ∀ (k i N : Nat), i + k = n → k < N → miter step N (st i) = r
  | 0, i, N + 1, h, _ => by obtain rfl : i = n := by omega
                            exact hend _
  | k + 1, i, N + 1, h, hN => by
    show step (miter step N) (st i) = r
    rw [hstep i (by omega)]
    exact miter_up hstep hend k (i + 1) N (by omega) (by omega)
/-- A loop that ends: a property of what it yields. -/
theorem miter_all {α R : Type} {step : (α → Option R) → α → Option R} {p : Option R → Prop} (μ : α → Nat) (inv : α → Prop) (hstep : ∀ a, inv a → ∀ rec, (∀ b, inv b → μ b < μ a → p (rec b)) → p (step rec a)) : ∀ (N : Nat) (a : α), inv a → μ a < N → p (miter step N a)
  | N + 1, a, h, hN => hstep a h _ fun b hb hlt => miter_all μ inv hstep N b hb (by omega)
end Mir
