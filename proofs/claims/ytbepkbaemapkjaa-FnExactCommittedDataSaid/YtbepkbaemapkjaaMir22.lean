/- The mirror machine: regions in whatever order, 2. -/
import Derived.Test.YtbepkbaemapkjaaMir21
namespace Mir
set_option linter.unusedVariables false
set_option linter.unusedSimpArgs false
open Go
variable {E : Env} {P : Program} {T : Tb} {Γ : Ctx E} {cx : Cx} {G G' : Gh} {S : St E} {tm : Array Value} {a : Act} {W W' : World}

/-! ### Lookups -/
def keys (r : Rc E) : List Nat := r.u.map (·.1)
theorem lk_none_of {u : Up E} {k : Nat} (h : k ∉ u.map (·.1)) : lk u k = none := by
  cases hl : lk u k with
  | none => rfl
  | some b => exact absurd (List.mem_map.2 ⟨_, lk_mem hl, rfl⟩) h
variable {R : Nat → Rc E} {S0 : St E} {X X' : Nat → Bool}
theorem slot_congr {s : Nat} : ∀ {n : Nat}, (∀ j, j < n → (R j).d = some s → X j = X' j) → lk (S0.app (sub X R n)).ρ s = lk (S0.app (sub X' R n)).ρ s
  | 0, _ => rfl
  | n + 1, h => by
    have ih := slot_congr (n := n) fun j hj => h j (Nat.lt_succ_of_lt hj)
    have hn := h n (Nat.lt_succ_self _)
    simp only [sub]
    by_cases hd : (R n).d = some s
    · rw [← hn hd]
      cases X n with
      | true => rw [cond_true, cond_true, (app_cons S0 _ _).1, (app_cons S0 _ _).1, if_pos hd, if_pos hd]
      | false => exact ih
    · have e : ∀ (b : Bool) (L : List (Rc E)), lk (S0.app (bif b then R n :: L else L)).ρ s = lk (S0.app L).ρ s := by
        intro b L
        cases b with
        | true => rw [cond_true, (app_cons S0 _ _).1, if_neg hd]
        | false => rfl
      rw [e, e]; exact ih
theorem heap_congr {k : Nat} : ∀ {n : Nat}, (∀ j, j < n → k ∈ keys (R j) → X j = X' j) → lk (S0.app (sub X R n)).H k = lk (S0.app (sub X' R n)).H k
  | 0, _ => rfl
  | n + 1, h => by
    have ih := heap_congr (n := n) fun j hj => h j (Nat.lt_succ_of_lt hj)
    have hn := h n (Nat.lt_succ_self _)
    simp only [sub]
    by_cases hd : k ∈ keys (R n)
    · rw [← hn hd]
      cases X n with
      | true => rw [cond_true, cond_true, (app_cons S0 _ _).2, (app_cons S0 _ _).2, lk_append, lk_append, ih]
      | false => exact ih
    · have e : ∀ (b : Bool) (L : List (Rc E)), lk (S0.app (bif b then R n :: L else L)).H k = lk (S0.app L).H k := by
        intro b L
        cases b with
        | true => rw [cond_true, (app_cons S0 _ _).2, lk_append, lk_none_of hd]
        | false => rfl
      rw [e, e]; exact ih
theorem slot_top {s i : Nat} (hs : (R i).d = some s) (hi : X i = true) : ∀ {n : Nat}, i < n → (∀ j, i < j → j < n → X j = true → (R j).d ≠ some s) → lk (S0.app (sub X R n)).ρ s = some (R i).v
  | 0, h, _ => absurd h (Nat.not_lt_zero _)
  | n + 1, h, hj => by
    simp only [sub]
    by_cases e : i = n
    · subst e; rw [hi, cond_true, (app_cons S0 _ _).1, if_pos hs]
    · have ih := slot_top hs hi (n := n) (by omega) fun j h1 h2 => hj j h1 (by omega)
      cases hx : X n with
      | true => rw [cond_true, (app_cons S0 _ _).1, if_neg (hj n (by omega) (by omega) hx)]; exact ih
      | false => exact ih
theorem heap_top {k i : Nat} {b : Blk E} (hs : lk (R i).u k = some b) (hi : X i = true) : ∀ {n : Nat}, i < n → (∀ j, i < j → j < n → X j = true → k ∉ keys (R j)) → lk (S0.app (sub X R n)).H k = some b
  | 0, h, _ => absurd h (Nat.not_lt_zero _)
  | n + 1, h, hj => by
    simp only [sub]
    by_cases e : i = n
    · subst e; rw [hi, cond_true, (app_cons S0 _ _).2, lk_append, hs]
    · have ih := heap_top hs hi (n := n) (by omega) fun j h1 h2 => hj j h1 (by omega)
      cases hx : X n with
      | true => rw [cond_true, (app_cons S0 _ _).2, lk_append, lk_none_of (hj n (by omega) (by omega) hx)]; exact ih
      | false => exact ih
theorem sub_lt {i : Nat} : ∀ {n : Nat}, i ≤ n → sub (fun j => decide (j < i)) R n = pre R i
  | 0, h => by obtain rfl : i = 0 := by omega
               rfl
  | n + 1, h => by
    by_cases e : i = n + 1
    · subst e
      have : ∀ m, m ≤ n + 1 → sub (fun j => decide (j < n + 1)) R m = pre R m := by
        intro m
        induction m with
        | zero => intro _; rfl
        | succ m ih => intro hm; simp only [sub]; rw [ih (by omega), decide_eq_true (show m < n + 1 by omega)]
      exact this (n + 1) (Nat.le_refl _)
    · simp only [sub]
      rw [decide_eq_false (show ¬ n < i by omega), cond_false]
      exact sub_lt (by omega)
theorem heap_live {k : Nat} : ∀ {n : Nat}, (lk (S0.app (sub X R n)).H k).isSome = true → (lk S0.H k).isSome = true ∨ ∃ j, j < n ∧ X j = true ∧ k ∈ keys (R j)
  | 0, h => .inl h
  | n + 1, h => by
    simp only [sub] at h
    cases hx : X n with
    | true =>
      rw [hx, cond_true, (app_cons S0 _ _).2, lk_append] at h
      split at h
      · rename_i b hl
        exact .inr ⟨n, Nat.lt_succ_self _, hx, List.mem_map.2 ⟨_, lk_mem hl, rfl⟩⟩
      · rcases heap_live h with h | ⟨j, h1, h2, h3⟩
        · exact .inl h
        · exact .inr ⟨j, by omega, h2, h3⟩
    | false =>
      rw [hx, cond_false] at h
      rcases heap_live h with h | ⟨j, h1, h2, h3⟩
      · exact .inl h
      · exact .inr ⟨j, by omega, h2, h3⟩

/-! ### What must come ahead -/
theorem befBits_spec {acc : List Nat} {o : Oper} {j : Nat} (h : Nat.testBit (befBits acc o) j = true) : ∃ e ∈ o.after, Region.binds .any e = true ∧ (e.on = j ∨ Nat.testBit (acc.getD e.on 0) j = true) := by
  have key : ∀ (l : List Edge) (s : Nat), Nat.testBit (l.foldl (fun s e => bif Region.binds .any e then (s ||| 2 ^ e.on) ||| acc.getD e.on 0 else s) s) j = true → Nat.testBit s j = true ∨ ∃ e ∈ l, Region.binds .any e = true ∧ (e.on = j ∨ Nat.testBit (acc.getD e.on 0) j = true) := by
    intro l
    induction l with
    | nil => intro s h; exact .inl h
    | cons e l ih =>
      intro s h
      rcases ih _ h with h | ⟨e', h1, h2⟩
      · dsimp only at h
        cases hb : Region.binds .any e with
        | false => rw [hb] at h; exact .inl h
        | true =>
          rw [hb, cond_true, Nat.testBit_or, Nat.testBit_or, Bool.or_eq_true, Bool.or_eq_true] at h
          rcases h with (h | h) | h
          · exact .inl h
          · exact .inr ⟨e, List.mem_cons_self .., hb, .inl (by rw [Nat.testBit_two_pow] at h; simpa using h)⟩
          · exact .inr ⟨e, List.mem_cons_self .., hb, .inr h⟩
      · exact .inr ⟨e', List.mem_cons_of_mem _ h1, h2⟩
  rcases key _ 0 h with h | ⟨e, h1, h2⟩
  · simp at h
  · exact ⟨e, by simpa using h1, h2⟩
theorem befGo_spec : ∀ (ops : List Oper) (acc : List Nat) (all : List Oper), all.drop acc.length = ops → (∀ i o j, i < acc.length → all[i]? = some o → Nat.testBit (acc.getD i 0) j = true → ∃ e ∈ o.after, Region.binds .any e = true ∧ (e.on = j ∨ (e.on < i ∧ Nat.testBit (acc.getD e.on 0) j = true))) →
    ∀ i o j, all[i]? = some o → Nat.testBit ((befGo ops acc).getD i 0) j = true → ∃ e ∈ o.after, Region.binds .any e = true ∧ (e.on = j ∨ (e.on < i ∧ Nat.testBit ((befGo ops acc).getD e.on 0) j = true))
  | [], acc, all, hd, hacc, i, o, j, hi, h => by
    by_cases hl : i < acc.length
    · exact hacc i o j hl hi h
    · have : (all.drop acc.length)[i - acc.length]? = some o := by rw [List.getElem?_drop, show acc.length + (i - acc.length) = i by omega]; exact hi
      rw [hd] at this; simp at this
  | o1 :: ops, acc, all, hd, hacc, i, o, j, hi, h => by
    refine befGo_spec ops (acc ++ [befBits acc o1]) all ?_ ?_ i o j hi h
    · rw [List.length_append, List.length_singleton, ← List.drop_drop, hd]; rfl
    · intro i o j hl hi h
      rw [List.length_append, List.length_singleton] at hl
      have get : ∀ k, k < acc.length → (acc ++ [befBits acc o1]).getD k 0 = acc.getD k 0 := fun k hk => by
        simp [List.getD_eq_getElem?_getD, List.getElem?_append_left hk]
      by_cases hl' : i < acc.length
      · rw [get i hl'] at h
        obtain ⟨e, h1, h2, h3⟩ := hacc i o j hl' hi h
        refine ⟨e, h1, h2, h3.imp id fun ⟨h3, h4⟩ => ⟨h3, by rw [get e.on (by omega)]; exact h4⟩⟩
      · obtain rfl : i = acc.length := by omega
        have ho : o = o1 := by
          have : (all.drop acc.length)[0]? = some o := by rw [List.getElem?_drop]; exact hi
          rw [hd] at this; simpa using this.symm
        subst ho
        have hget : (acc ++ [befBits acc o]).getD acc.length 0 = befBits acc o := by simp [List.getD_eq_getElem?_getD]
        rw [hget] at h
        obtain ⟨e, h1, h2, h3⟩ := befBits_spec h
        refine ⟨e, h1, h2, h3.imp id fun h4 => ?_⟩
        have hlt : e.on < acc.length := by
          by_cases hlt : e.on < acc.length
          · exact hlt
          · rw [List.getD_eq_getElem?_getD, List.getElem?_eq_none (by omega)] at h4; simp at h4
        exact ⟨hlt, by rw [get _ hlt]; exact h4⟩
theorem befores_spec {all : Array Oper} {i : Nat} {o : Oper} {j : Nat} (hi : all[i]? = some o) (h : Nat.testBit ((befores all.toList).getD i 0) j = true) : ∃ e ∈ o.after, Region.binds .any e = true ∧ (e.on = j ∨ (e.on < i ∧ Nat.testBit ((befores all.toList).getD e.on 0) j = true)) :=
  befGo_spec all.toList [] all.toList rfl (fun i o j h => absurd h (Nat.not_lt_zero _)) i o j (by simpa using hi) h
/-- A set that is closed under what must come ahead. -/
def Down (all : Array Oper) (X : Nat → Bool) : Prop := ∀ i o, all[i]? = some o → X i = true → ∀ e ∈ o.after, Region.binds .any e = true → X e.on = true
theorem Down.bef {all : Array Oper} (hX : Down all X) (hsz : ∀ i, X i = true → i < all.size) : ∀ (i : Nat) (o : Oper), all[i]? = some o → (∀ e ∈ o.after, Region.binds .any e = true → X e.on = true) → ∀ j, Nat.testBit ((befores all.toList).getD i 0) j = true → X j = true := by
  intro i
  induction i using Nat.strongRecOn with
  | _ i ih =>
    intro o hi he j h
    obtain ⟨e, h1, h2, h3⟩ := befores_spec hi h
    rcases h3 with rfl | ⟨h3, h4⟩
    · exact he e h1 h2
    · have hx := he e h1 h2
      have hlt := hsz _ hx
      exact ih e.on h3 all[e.on] (by simp [hlt]) (fun e' h5 h6 => hX e.on _ (by simp [hlt]) hx e' h5 h6) j h4
theorem edgesOK_spec : ∀ {l : List Oper} {i : Nat}, edgesOK l i = true → ∀ j o, l[j]? = some o → ∀ e ∈ o.after, Region.binds .any e = true → e.on < i + j
  | [], _, _, _, _, h => by simp at h
  | o :: l, i, h, j, o', hj => by
    simp only [edgesOK, Bool.and_eq_true, List.all_eq_true] at h
    cases j with
    | zero =>
      simp only [List.getElem?_cons_zero, Option.some.injEq] at hj
      subst hj
      intro e he hb
      have := h.1 e (by simpa using he)
      rw [hb] at this
      have := Nat.le_of_ble_eq_true (show Nat.ble (e.on + 1) i = true by simpa [Nat.blt] using this)
      omega
    | succ j =>
      intro e he hb
      have := edgesOK_spec h.2 j o' (by simpa using hj) e he hb
      omega
theorem indepSteps_spec {b : List Nat} : ∀ {n : Nat}, indepSteps b (stepsOf R n) = true → ∀ i j, j < i → i < n → (R i).ex = true → (R j).ex = true → sepSteps b ⟨i, keys (R i), (R i).rs⟩ ⟨j, keys (R j), (R j).rs⟩ = true
  | 0, _, _, _, _, h, _, _ => absurd h (Nat.not_lt_zero _)
  | n + 1, h, i, j, hji, hin, hi, hj => by
    have mem : ∀ {m : Nat} {j : Nat}, j < m → (R j).ex = true → (⟨j, keys (R j), (R j).rs⟩ : Step) ∈ stepsOf R m := by
      intro m
      induction m with
      | zero => intro j h; exact absurd h (Nat.not_lt_zero _)
      | succ m ih =>
        intro j hjm hj
        simp only [stepsOf]
        by_cases e : j = m
        · subst e; rw [hj]; exact List.mem_cons_self ..
        · have := ih (show j < m by omega) hj
          cases (R m).ex with
          | true => exact List.mem_cons_of_mem _ this
          | false => exact this
    simp only [stepsOf] at h
    by_cases e : i = n
    · subst e
      rw [hi, cond_true] at h
      simp only [indepSteps, Bool.and_eq_true, List.all_eq_true] at h
      exact h.1 _ (mem hji hj)
    · have h' : indepSteps b (stepsOf R n) = true := by
        cases hx : (R n).ex with
        | true => rw [hx, cond_true] at h; simp only [indepSteps, Bool.and_eq_true] at h; exact h.2
        | false => rw [hx] at h; exact h
      exact indepSteps_spec h' i j hji (by omega) hi hj
theorem meets_of {a b : List Nat} {k : Nat} (h1 : k ∈ a) (h2 : k ∈ b) : meets a b = true := List.any_eq_true.2 ⟨k, h1, List.any_eq_true.2 ⟨k, h2, Nat.beq_refl k⟩⟩
theorem indepNames_spec {all : Array Oper} {b : List Nat} (h : indepNames all b = true) {i j : Nat} {x y : Oper} (hji : j < i) (hi : all[i]? = some x) (hj : all[j]? = some y) : Nat.testBit (b.getD i 0) j = true ∨ x.apart all y = true := by
  have hlt : i < all.size := by
    by_cases h : i < all.size
    · exact h
    · rw [Array.getElem?_eq_none (by omega)] at hi; cases hi
  have := List.all_eq_true.1 (List.all_eq_true.1 h i (List.mem_range.2 hlt)) j (List.mem_range.2 hji)
  rw [hi, hj] at this
  simpa using this
end Mir
