/- Pure laws: MembersOf, ConfigAllowed. -/
import Derived.Test.YtigmgeablmomnaaOL4
namespace Mir.Y
set_option linter.unusedVariables false
set_option linter.unusedSimpArgs false
open Go
/-! ### The members that a log gives -/
def memL (a : List Entry) (s : List Int) : Nat → List Int
  | 0 => s
  | n + 1 => bif (ex a n).Kind == 2 then bl (ex a n).Data (ex a n).Data.size else memL a s n
theorem memL_length {a : List Entry} {s : List Int} (hs : s.length ≤ M20) (hd : ∀ x ∈ a, x.Data.size ≤ M20) : ∀ n, n ≤ a.length → (memL a s n).length ≤ M20
  | 0, _ => hs
  | n + 1, h => by
    unfold memL
    cases (ex a n).Kind == 2 with
    | true => rw [cond_true, bl_length]; exact ex_size hd (by omega)
    | false => exact memL_length hs hd n (by omega)
def allMem (a : List Entry) : Prop := ∀ j, j < a.length → ((ex a j).Kind == 2) = true → memB (ex a j).Data = true
theorem l10Members {N : Nat} (hN : Big N) (x : Node) (h : x.Log.length ≤ M20) (hd : NodeData x) (hm : allMem x.Log) : spec_l10Members.m N x = some (memL x.Log x.Start x.Log.length) := by
  unfold spec_l10Members.m spec_l10Members.lp2
  have e : w64 ((x.Log.length : Int) - 1) = (x.Log.length : Int) - 1 := w_small (by omega) (by simp only [M20] at h; omega)
  rw [e]
  have : ∀ (n K : Nat), n ≤ x.Log.length → n < K → miter (fun rec => spec_l10Members.step2 N x rec) K ((n : Int) - 1) = some (memL x.Log x.Start n) := by
    intro n
    induction n with
    | zero =>
      intro K _ hK
      obtain ⟨K, rfl⟩ : ∃ L, K = L + 1 := ⟨K - 1, by omega⟩
      rfl
    | succ n ih =>
      intro K hn hK
      obtain ⟨K, rfl⟩ : ∃ L, K = L + 1 := ⟨K - 1, by omega⟩
      show spec_l10Members.step2 N x (miter (fun rec => spec_l10Members.step2 N x rec) K) _ = _
      have e1 : ((n + 1 : Nat) : Int) - 1 = (n : Int) := by omega
      have e2 : w64 ((n : Int) - 1) = (n : Int) - 1 := w_small (by omega) (by simp only [M20] at h; omega)
      rw [e1]
      simp only [spec_l10Members.step2, decide_eq_true (show (n : Int) ≥ 0 by omega), nn_dec, lt_dec (show n < x.Log.length by omega), cond_true, Int.toNat_natCast, exe, e2, memL]
      cases hk : (ex x.Log n).Kind == 2 with
      | true =>
        rw [cond_true, cond_true, l02Members hN _ (ex_size hd (by omega)), ob_some]
        have := hm n (by omega) hk
        unfold memB at this
        rw [Bool.and_eq_true] at this
        rw [this.1]; rfl
      | false => rw [cond_false, cond_false, ih K (by omega) (by omega)]
  exact this _ N (Nat.le_refl _) (by simp only [M20] at h; omega)
theorem memFind (a : List Entry) (s : List Int) : ∀ n, n ≤ a.length → ((a.take n).reverse.find? (fun e => e.Kind == 2)).elim s (fun e => bl e.Data e.Data.size) = memL a s n
  | 0, _ => by simp [memL]
  | n + 1, h => by
    have ht : a.take (n + 1) = a.take n ++ [a[n]] := by rw [List.take_add_one, List.getElem?_eq_getElem (by omega)]; rfl
    have e : ex a n = a[n] := by rw [ex, getD_at (show n < a.length by omega)]
    rw [ht, List.reverse_append, List.reverse_singleton, List.singleton_append, List.find?_cons, memL, e]
    cases a[n].Kind == 2 with
    | true => rfl
    | false => exact memFind a s n (by omega)
theorem implMembers {N : Nat} (hN : Big N) (x : Node) (h : NodeSz x M20) (hd : NodeData x) : impl_Node_members.m N x = some (memL x.Log x.Start x.Log.length) := by
  unfold impl_Node_members.m
  have hl := h.Log
  have e1 : decide (x.Log.length ≤ 1048576000) = true := decide_eq_true (by simp only [M20] at hl; omega)
  have e2 : x.Log.all (fun e => !(e.Kind == 2) || (impl_readMembers.m N e.Data).isSome) = true := by
    rw [List.all_eq_true]
    intro e he
    rw [readMembers hN _ (hd e he)]
    cases e.Kind == 2 <;> rfl
  rw [e1, e2, Bool.and_self, cond_true]
  have e3 := memFind x.Log x.Start x.Log.length (Nat.le_refl _)
  rw [List.take_length] at e3
  rw [← e3]
  generalize hf : x.Log.reverse.find? (fun e => e.Kind == 2) = o
  cases o with
  | none => exact cloneInt N _ h.Start
  | some e =>
    have he : e ∈ x.Log := by
      have := List.mem_of_find?_eq_some hf
      exact List.mem_reverse.mp this
    show (impl_readMembers.m N e.Data).map (·.1) = _
    rw [readMembers hN _ (hd e he)]; rfl
theorem okMem {x : Node} (h : okB x = true) : allMem x.Log := by
  unfold okB at h
  rw [Bool.and_eq_true, Bool.and_eq_true] at h
  have hs := h.2.1
  unfold stB at hs
  rw [Bool.and_eq_true, Bool.and_eq_true, Bool.and_eq_true] at hs
  have hl : logB x.Log x.Term = true := hs.2.2.2
  unfold logB at hl
  rw [allF_iff] at hl
  intro j hj hk
  have := hl j (Nat.zero_le _) (by omega)
  rw [Bool.and_eq_true] at this
  have he := this.1
  unfold entB at he
  rw [Bool.and_eq_true] at he
  have e2 : (ex x.Log j).Kind = 2 := by simpa using hk
  have he2 := he.2
  rw [e2] at he2
  exact he2
def memR (x : Node) : List Int × Int := bif okB x then (memL x.Log x.Start x.Log.length, 0) else ([], 1)
theorem memR_length {x : Node} (h : NodeSz x M20) (hd : NodeData x) : (memR x).1.length ≤ 1048576 := by
  unfold memR
  cases okB x with
  | true => exact memL_length h.Start hd _ (Nat.le_refl _)
  | false => exact Nat.zero_le _
theorem markNode1 {N : Nat} (hN : Big N) (x : Node) (c : Int) (h : NodeSz x 1048576) (h0 : 0 ≤ c) (hc : c ≤ 1000000) : ∃ k y, laws_markNode.m N x c = some (k, y) ∧ c ≤ k := by
  have cnt : ∀ {k : Int} {a : List Int}, 0 ≤ k → k ≤ 7340032 → a.length ≤ 1048576 → (marks fInt k a).1 = k + a.length := fun hk hk2 ha => by
    rw [marks_count fInt_count (by omega) (by omega) hk (by omega)]; omega
  have cE : (marks (fEnt N) c x.Log).1 = c + 3 * x.Log.length := marks_count (fEnt_count N) (by omega) (by omega) h0 (by have := h.Log; omega)
  obtain ⟨l1, l2, l3, l4, l5⟩ := h
  have e2 := cnt (k := (marks (fEnt N) c x.Log).1) (by omega) (by omega) l2
  have e3 := cnt (k := (marks fInt (marks (fEnt N) c x.Log).1 x.Start).1) (by omega) (by omega) l3
  have e4 := cnt (k := (marks fInt (marks fInt (marks (fEnt N) c x.Log).1 x.Start).1 x.Votes).1) (by omega) (by omega) l4
  have e5 := cnt (k := (marks fInt (marks fInt (marks fInt (marks (fEnt N) c x.Log).1 x.Start).1 x.Votes).1 x.Next).1) (by omega) (by omega) l5
  unfold laws_markNode.m
  simp only [markEntryS hN x.Log c l1 h0 (by omega), ob_some, markIntS hN _ _ l2, markIntS hN _ _ l3, markIntS hN _ _ l4, markIntS hN _ _ l5]
  exact ⟨_, _, rfl, by omega⟩
/-! ### ConfigAllowed -/
def hasB (a : List Int) (x : Int) : Bool := !allF (fun j => !(ix a j == x)) 0 a.length
theorem l10Has {N : Nat} (hN : Big N) (a : List Int) (x : Int) (h : a.length ≤ M20) : spec_l10Has.m N a x = some (hasB a x) := by
  unfold spec_l10Has.m spec_l10Has.lp2
  have := loop_all (step := fun rec => spec_l10Has.step2 N a x rec) (n := a.length) (st := fun i => (i : Int)) (p := fun i => !(ix a i == x)) (f := some true) (t := some false) (fun i hi rec => by
    simp only [spec_l10Has.step2, lt_dec hi, nn_dec, cond_true, Int.toNat_natCast, ixe]
    rw [w_up i _ hi h]
    cases ix a i == x <;> rfl) (fun rec => by simp [spec_l10Has.step2]) a.length 0 N (by omega) (by simp only [M20] at h; omega)
  refine (show _ = _ from this).trans ?_
  unfold hasB
  cases allF _ 0 a.length <;> rfl
def cnB (d : Nat → Bool) : Nat → Nat
  | 0 => 0
  | i + 1 => cnB d i + (d i).toNat
theorem cnB_le (d : Nat → Bool) : ∀ n, cnB d n ≤ n
  | 0 => Nat.le_refl _
  | n + 1 => by
    have := cnB_le d n
    have h1 : (d n).toNat ≤ 1 := by cases d n <;> decide
    show cnB d n + (d n).toNat ≤ n + 1
    omega
def dif (a b : List Int) (i : Nat) : Bool := !(hasB a (i : Int) == hasB b (i : Int))
theorem allF_shift (q : Nat → Bool) (c k : Nat) : allF (fun j => q (c + j)) 0 k = allF q c k := by
  rw [Bool.eq_iff_iff, allF_iff, allF_iff]
  constructor
  · intro h j h1 h2
    have := h (j - c) (Nat.zero_le _) (by omega)
    rw [show c + (j - c) = j by omega] at this
    exact this
  · intro h j h1 h2
    exact h (c + j) (by omega) (by omega)
def calm (x : Node) : Bool := allF (fun j => !((ex x.Log j).Kind == 2)) x.Commit.toNat (x.Log.length - x.Commit.toNat)
def alwB (x : Node) (a : List Int) : Bool := ((cnB (dif (memL x.Log x.Start x.Log.length) a) 7 : Nat) : Int) == 1 && ((x.Role == 2) && (!(x.Commit == 0) && (((ex x.Log (x.Commit - 1).toNat).Term == x.Term) && calm x)))
theorem okCommit {x : Node} (h : okB x = true) : 0 ≤ x.Commit ∧ x.Commit ≤ x.Log.length := by
  unfold okB at h
  simp only [Bool.and_eq_true] at h
  have := h.2.2.2.2.2.2.2.2.1
  unfold inB at this
  simp only [Bool.and_eq_true, decide_eq_true_eq] at this
  omega
def alwR (x : Node) (a : List Int) : Bool × Int := bif decide ((a.length : Int) > 4096) then (false, 2) else bif okB x && (idsB (ix a) a.length && decide (0 < a.length)) then (alwB x a, 0) else (false, 1)
end Mir.Y
