/- Pure laws: CommitsAgree. -/
import Derived.Test.YtbepkbaemapkjaaUL6
import Derived.Laws.Strings
namespace Mir.Y
set_option linter.unusedVariables false
set_option linter.unusedSimpArgs false
open Go
theorem seqEq {a b : ByteArray} : seq a b = true ↔ a = b := by
  constructor
  · intro h
    unfold seq at h
    have e1 := ByteArray.toList_eq a
    have e2 := ByteArray.toList_eq b
    rw [e1, e2, beq_iff_eq] at h
    cases a; cases b
    simp only at h
    exact congrArg _ (Array.toList_inj.1 h)
  · rintro rfl; exact seq_self a
def eqK (x y : Entry) : Bool := (x.Term == y.Term) && ((x.Kind == y.Kind) && (seq x.Data y.Data))
theorem eqK_iff {x y : Entry} : eqK x y = true ↔ x = y := by
  unfold eqK
  simp only [Bool.and_eq_true, beq_iff_eq, seqEq]
  cases x; cases y
  simp
/-! ### Maps -/
theorem mpIdx_append {α : Type} {n m : Int} {x : α} : ∀ {es : List (Int × α)}, mpIdx n es = none → mpIdx m (es ++ [(n, x)]) = match mpIdx m es with | some j => some j | none => if m = n then some es.length else none
  | [], _ => by
    unfold mpIdx
    simp only [List.nil_append]
    unfold mpIdx
    by_cases h : m = n <;> simp [h, mpIdx]
  | e :: r, h => by
    unfold mpIdx at h
    split at h
    · cases h
    · have h' : mpIdx n r = none := by simpa using h
      simp only [List.cons_append]
      unfold mpIdx
      by_cases hm : m = e.1
      · simp [hm]
      · simp only [hm, if_false]
        rw [mpIdx_append h']
        cases mpIdx m r with
        | some j => rfl
        | none => by_cases hmn : m = n <;> simp [hmn]
theorem mpIdx_key {α : Type} {n : Int} : ∀ {es : List (Int × α)} {j : Nat}, mpIdx n es = some j → ∃ h : j < es.length, es[j].1 = n
  | [], _, h => by cases h
  | e :: r, j, h => by
    unfold mpIdx at h
    split at h
    · cases h; rename_i he; exact ⟨by simp, he.symm⟩
    · obtain ⟨i, hi, rfl⟩ := Option.map_eq_some_iff.1 h
      obtain ⟨h1, h2⟩ := mpIdx_key hi
      exact ⟨by simp; omega, by simpa using h2⟩
theorem mpIdx_set {α : Type} {n m : Int} {x : α} : ∀ {es : List (Int × α)} {j : Nat}, mpIdx n es = some j → mpIdx m (es.set j (n, x)) = mpIdx m es
  | [], _, h => by cases h
  | e :: r, j, h => by
    have hk := h
    unfold mpIdx at h
    split at h
    · cases h
      rename_i he
      simp only [List.set_cons_zero]
      unfold mpIdx
      rw [he]
    · obtain ⟨i, hi, rfl⟩ := Option.map_eq_some_iff.1 h
      simp only [List.set_cons_succ]
      unfold mpIdx
      rw [mpIdx_set hi]
theorem mpGet_set {α : Type} (n m : Int) (x : α) (es : List (Int × α)) : mpGet m (mpSet n x es) = if m = n then some x else mpGet m es := by
  unfold mpSet
  cases hj : mpIdx n es with
  | none =>
    simp only
    unfold mpGet
    rw [mpIdx_append hj]
    by_cases hm : m = n
    · subst hm
      rw [hj]; simp
    · rw [if_neg hm]
      cases hk : mpIdx m es with
      | none => simp [hm]
      | some j =>
        obtain ⟨h1, _⟩ := mpIdx_key hk
        simp [List.getElem?_append_left h1, hm]
  | some j =>
    simp only
    obtain ⟨h1, h2⟩ := mpIdx_key hj
    unfold mpGet
    rw [mpIdx_set hj]
    by_cases hm : m = n
    · subst hm
      rw [hj]; simp [h1]
    · rw [if_neg hm]
      cases hk : mpIdx m es with
      | none => rfl
      | some i =>
        obtain ⟨h3, h4⟩ := mpIdx_key hk
        have hij : j ≠ i := by rintro rfl; exact hm (h4.symm.trans h2)
        simp [List.getElem?_set_ne hij]
/-! ### The first of each place -/
def dk (a : List Done) (i : Nat) : Done := a.getD i Done.dz
theorem dke (a : List Done) (i : Nat) : a.getD i Done.dz = dk a i := rfl
def mpL (a : List Done) : Nat → List (Int × Entry)
  | 0 => []
  | i + 1 => mpSet (dk a i).Index (dk a i).Entry (mpL a i)
def getK (a : List Done) : Nat → Int → Option Entry
  | 0, _ => none
  | i + 1, k => if k = (dk a i).Index then some (dk a i).Entry else getK a i k
theorem getK_eq (a : List Done) : ∀ (i : Nat) (k : Int), mpGet k (mpL a i) = getK a i k
  | 0, _ => rfl
  | i + 1, k => by
    show mpGet k (mpSet _ _ (mpL a i)) = if k = (dk a i).Index then _ else getK a i k
    rw [mpGet_set, getK_eq a i k]
theorem getK_spec (a : List Done) : ∀ (i : Nat) (k : Int), (getK a i k = none ∧ ∀ j, j < i → (dk a j).Index ≠ k) ∨ ∃ j, j < i ∧ (dk a j).Index = k ∧ getK a i k = some (dk a j).Entry ∧ ∀ l, j < l → l < i → (dk a l).Index ≠ k
  | 0, _ => .inl ⟨rfl, fun j h => by omega⟩
  | i + 1, k => by
    unfold getK
    by_cases h : k = (dk a i).Index
    · rw [if_pos h]
      exact .inr ⟨i, by omega, h.symm, rfl, fun l h1 h2 => by omega⟩
    · rw [if_neg h]
      rcases getK_spec a i k with ⟨h1, h2⟩ | ⟨j, h1, h2, h3, h4⟩
      · refine .inl ⟨h1, fun j hj => ?_⟩
        by_cases e : j = i
        · subst e; exact fun e => h e.symm
        · exact h2 j (by omega)
      · refine .inr ⟨j, by omega, h2, h3, fun l hl hl2 => ?_⟩
        by_cases e : l = i
        · subst e; exact fun e => h e.symm
        · exact h4 l hl (by omega)
def okI (a : List Done) (i : Nat) : Bool := match getK a i (dk a i).Index with
  | none => true
  | some e => eqK e (dk a i).Entry
def cP (a : List Done) (i j : Nat) : Bool := !((dk a i).Index == (dk a j).Index) || eqK (dk a i).Entry (dk a j).Entry
def prB (p : Nat → Nat → Bool) (n : Nat) : Bool := allF (fun i => allF (p i) 0 i) 0 n
theorem agree_eq (a : List Done) (n : Nat) : allF (okI a) 0 n = prB (cP a) n := by
  rw [Bool.eq_iff_iff]
  unfold prB
  rw [allF_iff, allF_iff]
  constructor
  · intro h i _ hi
    have hi : i < n := by omega
    revert hi
    induction i using Nat.strongRecOn with
    | _ i ih =>
      intro hi
      rw [allF_iff]
      intro j _ hj
      have hj : j < i := by omega
      unfold cP
      by_cases he : (dk a i).Index = (dk a j).Index
      · have hb : ((dk a i).Index == (dk a j).Index) = true := by simp [he]
        rw [hb, Bool.not_true, Bool.false_or, eqK_iff]
        have ho := h i (Nat.zero_le _) (by omega)
        unfold okI at ho
        rcases getK_spec a i (dk a i).Index with ⟨_, h2⟩ | ⟨q, h1, h2, h3, h4⟩
        · exact absurd he.symm (h2 j hj)
        · rw [h3] at ho
          have ho := eqK_iff.1 ho
          rcases Nat.lt_trichotomy j q with hjq | rfl | hjq
          · have := ih q h1 (Nat.zero_le _) (by omega) (by omega)
            rw [allF_iff] at this
            have := this j (Nat.zero_le _) (by omega)
            unfold cP at this
            have hb2 : ((dk a q).Index == (dk a j).Index) = true := by rw [h2, he]; simp
            rw [hb2, Bool.not_true, Bool.false_or, eqK_iff] at this
            rw [← ho, this]
          · exact ho.symm
          · exact absurd he.symm (h4 j hjq hj)
      · have hb : ((dk a i).Index == (dk a j).Index) = false := by simp [he]
        rw [hb]; rfl
  · intro h i _ hi
    have := h i (Nat.zero_le _) hi
    rw [allF_iff] at this
    unfold okI
    rcases getK_spec a i (dk a i).Index with ⟨h1, _⟩ | ⟨q, h1, h2, h3, _⟩
    · rw [h1]
    · rw [h3]
      have hq := this q (Nat.zero_le _) (by omega)
      unfold cP at hq
      have hb : ((dk a i).Index == (dk a q).Index) = true := by rw [h2]; simp
      rw [hb, Bool.not_true, Bool.false_or, eqK_iff] at hq
      exact eqK_iff.2 hq.symm
abbrev T17 : Int := 100000000000000000
def Stp {α R : Type} (rec : Int × Int × List α → Option R) (v : Int) (i : Nat) (L : List α) (g : Int) (r : Option R) : Prop := ∃ (v' : Int) (y : α), r = rec (v', ((i + 1 : Nat) : Int), L.set i y) ∧ v ≤ v' ∧ v' ≤ v + g
theorem mk_aux {α : Type} (B : Int) {step : (Int × Int × List α → Option (Int × List α)) → Int × Int × List α → Option (Int × List α)} {a : List α} {g : Int} {d : α} (hg : 0 ≤ g)
    (hstep : ∀ (i : Nat) (hi : i < a.length) (L : List α) (v : Int) rec, L.length = a.length → L.getD i d = a[i] → 0 ≤ v → v ≤ B → Stp rec v i L g (step rec (v, (i : Int), L)))
    (hend : ∀ (L : List α) (v : Int) rec, L.length = a.length → step rec (v, (a.length : Int), L) = some (v, L)) :
    ∀ (k i N : Nat) (L : List α) (v : Int), i + k = a.length → k < N → L.length = a.length → (∀ (j : Nat) (hj : j < a.length), i ≤ j → L.getD j d = a[j]) → 0 ≤ v → v + g * k ≤ B → ∃ z : Int × List α, miter step N (v, (i : Int), L) = some z ∧ v ≤ z.1 ∧ z.1 ≤ v + g * k
  | 0, i, N + 1, L, v, hi, hN, hl, hj, h0, hb => by
    have e : i = a.length := by omega
    subst e
    exact ⟨(v, L), hend L v _ hl, by simp, by simp⟩
  | k + 1, i, N + 1, L, v, hi, hN, hl, hj, h0, hb => by
    have e : g * ((k + 1 : Nat) : Int) = g * k + g := by push_cast; rw [Int.mul_add, Int.mul_one]
    have hp : 0 ≤ g * (k : Int) := Int.mul_nonneg hg (by omega)
    rw [e] at hb ⊢
    have hi' : i < a.length := by omega
    obtain ⟨v', y, h1, h2, h3⟩ := hstep i hi' L v (miter step N) hl (hj i hi' (Nat.le_refl _)) h0 (by omega)
    obtain ⟨z, hz, z1, z2⟩ := mk_aux B hg hstep hend k (i + 1) N (L.set i y) v' (by omega) (by omega) (by simpa using hl) (fun j hj' hij => by
      have := hj j hj' (by omega)
      rw [List.getD_eq_getElem?_getD] at this ⊢
      rw [List.getElem?_set_ne (by omega)]; exact this) (by omega) (by omega)
    refine ⟨z, ?_, by omega, by omega⟩
    show step (miter step N) (v, (i : Int), L) = some z
    rw [h1]; exact hz
theorem mk_loop {α : Type} (B : Int) {step : (Int × Int × List α → Option (Int × List α)) → Int × Int × List α → Option (Int × List α)} {a : List α} {g : Int} {d : α} {N : Nat} {c : Int} (hg : 0 ≤ g) (hN : a.length < N) (h0 : 0 ≤ c) (hb : c + g * a.length ≤ B)
    (hstep : ∀ (i : Nat) (hi : i < a.length) (L : List α) (v : Int) rec, L.length = a.length → L.getD i d = a[i] → 0 ≤ v → v ≤ B → Stp rec v i L g (step rec (v, (i : Int), L)))
    (hend : ∀ (L : List α) (v : Int) rec, L.length = a.length → step rec (v, (a.length : Int), L) = some (v, L)) :
    ∃ z : Int × List α, miter step N (c, 0, a) = some z ∧ c ≤ z.1 ∧ z.1 ≤ c + g * a.length :=
  mk_aux B hg hstep hend a.length 0 N a c (by omega) hN rfl (fun j hj _ => getD_at hj) h0 hb
theorem getD_set'' {α : Type} {l : List α} {i : Nat} (h : i < l.length) (x d : α) : (l.set i x).getD i d = x := by
  rw [List.getD_eq_getElem?_getD, List.getElem?_set_self h]; rfl
theorem set_ex {α : Type} {L w : List α} {i : Nat} {z : α} (h : ∃ y, w = L.set i y) : ∃ y, w.set i z = L.set i y := by
  obtain ⟨y, rfl⟩ := h
  exact ⟨z, List.set_set ..⟩
theorem w_b {x : Int} (h0 : 0 ≤ x) (h1 : x ≤ 2 * T17) : w64 x = x := w64_eq (by simp only [T17] at h1; omega) (by simp only [T17] at h1; omega)
theorem txt_aux {N : Nat} (c : Int) : ∀ (k K : Nat) (v : Int) (s : ByteArray), 0 ≤ v → v ≤ 2 * T17 → v < ((10 ^ k : Nat) : Int) → s.size + k ≤ 1000 → k < K → ∃ t, miter (fun rec => laws_markText.step4 N c rec) K (v, s) = some t
  | k, 0, v, s, h0, hb, h1, hs, hK => by omega
  | k, K + 1, v, s, h0, hb, h1, hs, hK => by
    show ∃ t, laws_markText.step4 N c _ (v, s) = some t
    simp only [laws_markText.step4]
    by_cases hv0 : v > 0
    · obtain ⟨k, rfl⟩ : ∃ k', k = k' + 1 := by
        cases k with
        | zero => simp at h1; omega
        | succ k => exact ⟨k, rfl⟩
      have one : ∀ x : Int, (strOf [x]).size = 1 := fun x => rfl
      have e10 : decide ((10 : Int) = 0) = false := rfl
      have hq : Int.tdiv v 10 = v / 10 := Int.tdiv_eq_ediv_of_nonneg h0
      have hw : w64 (Int.tdiv v 10) = v / 10 := by rw [hq]; exact w_b (by omega) (by omega)
      rw [decide_eq_true hv0, cond_true, e10, Bool.not_false, cond_true, one, decide_eq_true (by omega), cond_true, cond_true, hw]
      refine txt_aux c k K _ _ (by omega) (by omega) ?_ ?_ (by omega)
      · rw [Nat.pow_succ] at h1; push_cast at h1 ⊢; omega
      · rw [size_append, one]; omega
    · have e1 : (⟨#[109]⟩ : ByteArray).size = 1 := rfl
      rw [decide_eq_false hv0, cond_false, e1, decide_eq_true (by omega), cond_true]
      exact ⟨_, rfl⟩
theorem mkText {N : Nat} (hN : Big N) (c : Int) (h : c ≤ 2 * T17) : ∃ s, laws_markText.m N c = some s := by
  unfold laws_markText.m
  by_cases h0 : c ≤ 0
  · rw [decide_eq_true h0]; exact ⟨_, rfl⟩
  · rw [decide_eq_false h0, cond_false, laws_markText.lp4]
    exact txt_aux c 20 N c ByteArray.empty (by omega) h (by simp only [T17] at h; omega) (by decide) (by omega)
theorem mkEnt {N : Nat} (hN : Big N) (a : List Entry) (c : Int) (h : a.length ≤ 1048576) (h0 : 0 ≤ c) (hb : c + 3145728 ≤ T17 + 100000000) : ∃ z : Int × List Entry, laws_markEntryS.m N a c = some z ∧ c ≤ z.1 ∧ z.1 ≤ c + 3145728 := by
  unfold laws_markEntryS.m laws_markEntryS.lp2
  have hT : T17 = 100000000000000000 := rfl
  obtain ⟨z, hz, z1, z2⟩ := mk_loop (T17 + 100000000) (step := fun rec => laws_markEntryS.step2 N a c rec) (a := a) (g := 3) (d := Entry.dz) (N := N) (c := c) (by omega) (by omega) h0 (by omega) (fun i hi L v rec hl hx k0 k1 => by
    have hi' : i < L.length := by omega
    have e1 : w64 (v + 1) = v + 1 := w_b (by omega) (by omega)
    have e2 : w64 (v + 1 + 1) = v + 2 := by rw [w_b (by omega) (by omega)]; omega
    have e3 : w64 (v + 2 + 1) = v + 3 := by rw [w_b (by omega) (by omega)]; omega
    obtain ⟨s, hs⟩ := mkText hN (v + 2) (by omega)
    have : ∃ y, laws_markEntryS.step2 N a c rec (v, (i : Int), L) = rec (v + 3, ((i + 1 : Nat) : Int), L.set i y) := by
      simp only [laws_markEntryS.step2, List.length_set, lt_dec hi', nn_dec, cond_true, Int.toNat_natCast, e1, e2, e3, hs, ob_some, List.set_set, w_up i _ hi h]
      exact ⟨_, rfl⟩
    obtain ⟨y, hy⟩ := this
    exact ⟨_, y, hy, by omega, by omega⟩) (fun L v rec hl => by simp [laws_markEntryS.step2, hl])
  exact ⟨z, hz, z1, by omega⟩
theorem mkInt {N : Nat} (hN : Big N) (a : List Int) (c : Int) (h : a.length ≤ 1048576) (h0 : 0 ≤ c) (hb : c + 1048576 ≤ T17 + 100000000) : ∃ z : Int × List Int, laws_markIntS.m N a c = some z ∧ c ≤ z.1 ∧ z.1 ≤ c + 1048576 := by
  unfold laws_markIntS.m laws_markIntS.lp2
  have hT : T17 = 100000000000000000 := rfl
  obtain ⟨z, hz, z1, z2⟩ := mk_loop (T17 + 100000000) (step := fun rec => laws_markIntS.step2 N a c rec) (a := a) (g := 1) (d := 0) (N := N) (c := c) (by omega) (by omega) h0 (by omega) (fun i hi L v rec hl hx k0 k1 => by
    have hi' : i < L.length := by omega
    have e1 : w64 (v + 1) = v + 1 := w_b (by omega) (by omega)
    have : ∃ y, laws_markIntS.step2 N a c rec (v, (i : Int), L) = rec (v + 1, ((i + 1 : Nat) : Int), L.set i y) := by
      simp only [laws_markIntS.step2, List.length_set, lt_dec hi', nn_dec, cond_true, Int.toNat_natCast, e1, w_up i _ hi h]
      exact ⟨_, rfl⟩
    obtain ⟨y, hy⟩ := this
    exact ⟨_, y, hy, by omega, by omega⟩) (fun L v rec hl => by simp [laws_markIntS.step2, hl])
  exact ⟨z, hz, z1, by omega⟩

theorem mkMessageS {N : Nat} (hN : Big N) (a : List Message) (c : Int) (h : a.length ≤ 1048576) (hw : ∀ n ∈ a, n.Entries.length ≤ 1048576) (h0 : 0 ≤ c) (hb : c + 4000000 * a.length + 100000000 ≤ T17) : ∃ z : Int × List Message, laws_markMessageS.m N a c = some z ∧ c ≤ z.1 ∧ z.1 ≤ c + 4000000 * a.length := by
  unfold laws_markMessageS.m laws_markMessageS.lp2
  have hT : T17 = 100000000000000000 := rfl
  refine mk_loop T17 (step := fun rec => laws_markMessageS.step2 N a c rec) (a := a) (g := 4000000) (d := Message.dz) (N := N) (c := c) (by omega) (by omega) h0 (by omega) (fun i hi L v rec hl hx k0 k1 => ?_) (fun L v rec hl => by
    simp (config := { zeta := false }) only [laws_markMessageS.step2, hl, ge_dec, cond_false])
  have hi' : i < L.length := by omega
  have et : decide (i < L.length) = true := decide_eq_true hi'
  have e3' : (!decide ((3:Int) = 0)) = true := rfl
  have hm := List.getElem_mem hi
  have wi := w_up i _ hi h
  generalize a[i] = x at hx hm
  have hx1 : x.Entries.length ≤ 1048576 := hw x hm
  have e1 : w64 (v + 1) = v + 1 := (w_b (by omega) (by omega)).trans (by omega)
  have e2 : w64 (v + 1 + 1) = v + 2 := (w_b (by omega) (by omega)).trans (by omega)
  have e3 : w64 (v + 2 + 1) = v + 3 := (w_b (by omega) (by omega)).trans (by omega)
  have e4 : w64 (v + 3 + 1) = v + 4 := (w_b (by omega) (by omega)).trans (by omega)
  have e5 : w64 (v + 4 + 1) = v + 5 := (w_b (by omega) (by omega)).trans (by omega)
  have e6 : w64 (v + 5 + 1) = v + 6 := (w_b (by omega) (by omega)).trans (by omega)
  have e7 : w64 (v + 6 + 1) = v + 7 := (w_b (by omega) (by omega)).trans (by omega)
  obtain ⟨z, hz, z1, z2⟩ := mkEnt hN x.Entries (v + 7) hx1 (by omega) (by omega)
  have f1 : w64 (z.1 + 1) = z.1 + 1 := w_b (by omega) (by omega)
  simp (config := { zeta := false }) only [laws_markMessageS.step2, lt_dec hi', nn_dec, cond_true, Int.toNat_natCast, wi, e1, e2, e3, e4, e5, e6, e7, hz, f1]
  extract_lets w1 w2 w3 w4 w5 w6 w7
  have hw1 : w1 = L.set i (Message.mk v x.From x.To x.Term x.Index x.LogTerm x.Commit x.Entries x.Ok) := by show L.set i (Message.mk v (L.getD i Message.dz).From (L.getD i Message.dz).To (L.getD i Message.dz).Term (L.getD i Message.dz).Index (L.getD i Message.dz).LogTerm (L.getD i Message.dz).Commit (L.getD i Message.dz).Entries (L.getD i Message.dz).Ok) = _; rw [hx]
  have hw2 : w2 = L.set i (Message.mk v (v + 1) x.To x.Term x.Index x.LogTerm x.Commit x.Entries x.Ok) := by show w1.set i (Message.mk (w1.getD i Message.dz).Kind (v + 1) (w1.getD i Message.dz).To (w1.getD i Message.dz).Term (w1.getD i Message.dz).Index (w1.getD i Message.dz).LogTerm (w1.getD i Message.dz).Commit (w1.getD i Message.dz).Entries (w1.getD i Message.dz).Ok) = _; rw [hw1, getD_set'' hi', List.set_set]
  have hw3 : w3 = L.set i (Message.mk v (v + 1) (v + 2) x.Term x.Index x.LogTerm x.Commit x.Entries x.Ok) := by show w2.set i (Message.mk (w2.getD i Message.dz).Kind (w2.getD i Message.dz).From (v + 2) (w2.getD i Message.dz).Term (w2.getD i Message.dz).Index (w2.getD i Message.dz).LogTerm (w2.getD i Message.dz).Commit (w2.getD i Message.dz).Entries (w2.getD i Message.dz).Ok) = _; rw [hw2, getD_set'' hi', List.set_set]
  have hw4 : w4 = L.set i (Message.mk v (v + 1) (v + 2) (v + 3) x.Index x.LogTerm x.Commit x.Entries x.Ok) := by show w3.set i (Message.mk (w3.getD i Message.dz).Kind (w3.getD i Message.dz).From (w3.getD i Message.dz).To (v + 3) (w3.getD i Message.dz).Index (w3.getD i Message.dz).LogTerm (w3.getD i Message.dz).Commit (w3.getD i Message.dz).Entries (w3.getD i Message.dz).Ok) = _; rw [hw3, getD_set'' hi', List.set_set]
  have hw5 : w5 = L.set i (Message.mk v (v + 1) (v + 2) (v + 3) (v + 4) x.LogTerm x.Commit x.Entries x.Ok) := by show w4.set i (Message.mk (w4.getD i Message.dz).Kind (w4.getD i Message.dz).From (w4.getD i Message.dz).To (w4.getD i Message.dz).Term (v + 4) (w4.getD i Message.dz).LogTerm (w4.getD i Message.dz).Commit (w4.getD i Message.dz).Entries (w4.getD i Message.dz).Ok) = _; rw [hw4, getD_set'' hi', List.set_set]
  have hw6 : w6 = L.set i (Message.mk v (v + 1) (v + 2) (v + 3) (v + 4) (v + 5) x.Commit x.Entries x.Ok) := by show w5.set i (Message.mk (w5.getD i Message.dz).Kind (w5.getD i Message.dz).From (w5.getD i Message.dz).To (w5.getD i Message.dz).Term (w5.getD i Message.dz).Index (v + 5) (w5.getD i Message.dz).Commit (w5.getD i Message.dz).Entries (w5.getD i Message.dz).Ok) = _; rw [hw5, getD_set'' hi', List.set_set]
  have hw7 : w7 = L.set i (Message.mk v (v + 1) (v + 2) (v + 3) (v + 4) (v + 5) (v + 6) x.Entries x.Ok) := by show w6.set i (Message.mk (w6.getD i Message.dz).Kind (w6.getD i Message.dz).From (w6.getD i Message.dz).To (w6.getD i Message.dz).Term (w6.getD i Message.dz).Index (w6.getD i Message.dz).LogTerm (v + 6) (w6.getD i Message.dz).Entries (w6.getD i Message.dz).Ok) = _; rw [hw6, getD_set'' hi', List.set_set]
  clear_value w7 w6 w5 w4 w3 w2 w1
  subst hw1 hw2 hw3 hw4 hw5 hw6 hw7
  simp (config := { zeta := false }) only [List.length_set, lt_dec hi', et, nn_dec, cond_true, e3', Int.toNat_natCast, getD_set'' hi', List.set_set, ob_some, wi, e1, e2, e3, e4, e5, e6, e7, hz, f1]
  extract_lets w9 w10
  have hw9 : w9 = L.set i (Message.mk v (v + 1) (v + 2) (v + 3) (v + 4) (v + 5) (v + 6) z.2 x.Ok) := rfl
  have hw10 : w10 = L.set i (Message.mk v (v + 1) (v + 2) (v + 3) (v + 4) (v + 5) (v + 6) z.2 (Int.tmod z.1 3 == 0)) := by show w9.set i (Message.mk (w9.getD i Message.dz).Kind (w9.getD i Message.dz).From (w9.getD i Message.dz).To (w9.getD i Message.dz).Term (w9.getD i Message.dz).Index (w9.getD i Message.dz).LogTerm (w9.getD i Message.dz).Commit (w9.getD i Message.dz).Entries (Int.tmod z.1 3 == 0)) = _; rw [hw9, getD_set'' hi', List.set_set]
  clear_value w10 w9
  subst hw9 hw10
  simp (config := { zeta := false }) only [List.length_set, lt_dec hi', et, nn_dec, cond_true, e3', Int.toNat_natCast, getD_set'' hi', List.set_set, ob_some, wi, e1, e2, e3, e4, e5, e6, e7, hz, f1]
  exact ⟨_, _, rfl, by omega, by omega⟩
theorem mkNodeS {N : Nat} (hN : Big N) (a : List Node) (c : Int) (h : a.length ≤ 1048576) (hw : ∀ n ∈ a, NodeSz n 1048576) (h0 : 0 ≤ c) (hb : c + 8000000 * a.length + 100000000 ≤ T17) : ∃ z : Int × List Node, laws_markNodeS.m N a c = some z ∧ c ≤ z.1 ∧ z.1 ≤ c + 8000000 * a.length := by
  unfold laws_markNodeS.m laws_markNodeS.lp2
  have hT : T17 = 100000000000000000 := rfl
  refine mk_loop T17 (step := fun rec => laws_markNodeS.step2 N a c rec) (a := a) (g := 8000000) (d := Node.dz) (N := N) (c := c) (by omega) (by omega) h0 (by omega) (fun i hi L v rec hl hx k0 k1 => ?_) (fun L v rec hl => by
    simp (config := { zeta := false }) only [laws_markNodeS.step2, hl, ge_dec, cond_false])
  have hi' : i < L.length := by omega
  have et : decide (i < L.length) = true := decide_eq_true hi'
  have e3' : (!decide ((3:Int) = 0)) = true := rfl
  have hm := List.getElem_mem hi
  have wi := w_up i _ hi h
  generalize a[i] = x at hx hm
  obtain ⟨x1, x2, x3, x4, x5⟩ := hw x hm
  have e1 : w64 (v + 1) = v + 1 := (w_b (by omega) (by omega)).trans (by omega)
  have e2 : w64 (v + 1 + 1) = v + 2 := (w_b (by omega) (by omega)).trans (by omega)
  have e3 : w64 (v + 2 + 1) = v + 3 := (w_b (by omega) (by omega)).trans (by omega)
  obtain ⟨za, hza, zal, zau⟩ := mkEnt hN x.Log (v + 3) x1 (by omega) (by omega)
  obtain ⟨zb, hzb, zbl, zbu⟩ := mkInt hN x.Start za.1 x2 (by omega) (by omega)
  have f1 : w64 (zb.1 + 1) = zb.1 + 1 := w_b (by omega) (by omega)
  obtain ⟨zc, hzc, zcl, zcu⟩ := mkInt hN x.Votes (zb.1 + 1) x3 (by omega) (by omega)
  obtain ⟨zd, hzd, zdl, zdu⟩ := mkInt hN x.Next zc.1 x4 (by omega) (by omega)
  obtain ⟨ze, hze, zel, zeu⟩ := mkInt hN x.Match zd.1 x5 (by omega) (by omega)
  have g1 : w64 (ze.1 + 1) = ze.1 + 1 := (w_b (by omega) (by omega)).trans (by omega)
  have g2 : w64 (ze.1 + 1 + 1) = ze.1 + 2 := (w_b (by omega) (by omega)).trans (by omega)
  have g3 : w64 (ze.1 + 2 + 1) = ze.1 + 3 := (w_b (by omega) (by omega)).trans (by omega)
  have g4 : w64 (ze.1 + 3 + 1) = ze.1 + 4 := (w_b (by omega) (by omega)).trans (by omega)
  simp (config := { zeta := false }) only [laws_markNodeS.step2, lt_dec hi', nn_dec, cond_true, Int.toNat_natCast, wi, e1, e2, e3, hza, hzb, f1, hzc, hzd, hze, g1, g2, g3, g4]
  extract_lets w1 w2 w3
  have hw1 : w1 = L.set i (Node.mk v x.Term x.Vote x.Log x.Start x.Role x.Votes x.Next x.Match x.Commit x.Elapsed x.Wait x.Up) := by show L.set i (Node.mk v (L.getD i Node.dz).Term (L.getD i Node.dz).Vote (L.getD i Node.dz).Log (L.getD i Node.dz).Start (L.getD i Node.dz).Role (L.getD i Node.dz).Votes (L.getD i Node.dz).Next (L.getD i Node.dz).Match (L.getD i Node.dz).Commit (L.getD i Node.dz).Elapsed (L.getD i Node.dz).Wait (L.getD i Node.dz).Up) = _; rw [hx]
  have hw2 : w2 = L.set i (Node.mk v (v + 1) x.Vote x.Log x.Start x.Role x.Votes x.Next x.Match x.Commit x.Elapsed x.Wait x.Up) := by show w1.set i (Node.mk (w1.getD i Node.dz).Id (v + 1) (w1.getD i Node.dz).Vote (w1.getD i Node.dz).Log (w1.getD i Node.dz).Start (w1.getD i Node.dz).Role (w1.getD i Node.dz).Votes (w1.getD i Node.dz).Next (w1.getD i Node.dz).Match (w1.getD i Node.dz).Commit (w1.getD i Node.dz).Elapsed (w1.getD i Node.dz).Wait (w1.getD i Node.dz).Up) = _; rw [hw1, getD_set'' hi', List.set_set]
  have hw3 : w3 = L.set i (Node.mk v (v + 1) (v + 2) x.Log x.Start x.Role x.Votes x.Next x.Match x.Commit x.Elapsed x.Wait x.Up) := by show w2.set i (Node.mk (w2.getD i Node.dz).Id (w2.getD i Node.dz).Term (v + 2) (w2.getD i Node.dz).Log (w2.getD i Node.dz).Start (w2.getD i Node.dz).Role (w2.getD i Node.dz).Votes (w2.getD i Node.dz).Next (w2.getD i Node.dz).Match (w2.getD i Node.dz).Commit (w2.getD i Node.dz).Elapsed (w2.getD i Node.dz).Wait (w2.getD i Node.dz).Up) = _; rw [hw2, getD_set'' hi', List.set_set]
  clear_value w3 w2 w1
  subst hw1 hw2 hw3
  simp (config := { zeta := false }) only [List.length_set, lt_dec hi', et, nn_dec, cond_true, e3', Int.toNat_natCast, getD_set'' hi', List.set_set, ob_some, wi, e1, e2, e3, hza, hzb, f1, hzc, hzd, hze, g1, g2, g3, g4]
  extract_lets w5
  have hw5 : w5 = L.set i (Node.mk v (v + 1) (v + 2) za.2 x.Start x.Role x.Votes x.Next x.Match x.Commit x.Elapsed x.Wait x.Up) := rfl
  clear_value w5
  subst hw5
  simp (config := { zeta := false }) only [List.length_set, lt_dec hi', et, nn_dec, cond_true, e3', Int.toNat_natCast, getD_set'' hi', List.set_set, ob_some, wi, e1, e2, e3, hza, hzb, f1, hzc, hzd, hze, g1, g2, g3, g4]
  extract_lets w7 w8
  have hw7 : w7 = L.set i (Node.mk v (v + 1) (v + 2) za.2 zb.2 x.Role x.Votes x.Next x.Match x.Commit x.Elapsed x.Wait x.Up) := rfl
  have hw8 : w8 = L.set i (Node.mk v (v + 1) (v + 2) za.2 zb.2 zb.1 x.Votes x.Next x.Match x.Commit x.Elapsed x.Wait x.Up) := by show w7.set i (Node.mk (w7.getD i Node.dz).Id (w7.getD i Node.dz).Term (w7.getD i Node.dz).Vote (w7.getD i Node.dz).Log (w7.getD i Node.dz).Start zb.1 (w7.getD i Node.dz).Votes (w7.getD i Node.dz).Next (w7.getD i Node.dz).Match (w7.getD i Node.dz).Commit (w7.getD i Node.dz).Elapsed (w7.getD i Node.dz).Wait (w7.getD i Node.dz).Up) = _; rw [hw7, getD_set'' hi', List.set_set]
  clear_value w8 w7
  subst hw7 hw8
  simp (config := { zeta := false }) only [List.length_set, lt_dec hi', et, nn_dec, cond_true, e3', Int.toNat_natCast, getD_set'' hi', List.set_set, ob_some, wi, e1, e2, e3, hza, hzb, f1, hzc, hzd, hze, g1, g2, g3, g4]
  extract_lets w10
  have hw10 : w10 = L.set i (Node.mk v (v + 1) (v + 2) za.2 zb.2 zb.1 zc.2 x.Next x.Match x.Commit x.Elapsed x.Wait x.Up) := rfl
  clear_value w10
  subst hw10
  simp (config := { zeta := false }) only [List.length_set, lt_dec hi', et, nn_dec, cond_true, e3', Int.toNat_natCast, getD_set'' hi', List.set_set, ob_some, wi, e1, e2, e3, hza, hzb, f1, hzc, hzd, hze, g1, g2, g3, g4]
  extract_lets w12
  have hw12 : w12 = L.set i (Node.mk v (v + 1) (v + 2) za.2 zb.2 zb.1 zc.2 zd.2 x.Match x.Commit x.Elapsed x.Wait x.Up) := rfl
  clear_value w12
  subst hw12
  simp (config := { zeta := false }) only [List.length_set, lt_dec hi', et, nn_dec, cond_true, e3', Int.toNat_natCast, getD_set'' hi', List.set_set, ob_some, wi, e1, e2, e3, hza, hzb, f1, hzc, hzd, hze, g1, g2, g3, g4]
  extract_lets w14 w15 w16 w17 w18
  have hw14 : w14 = L.set i (Node.mk v (v + 1) (v + 2) za.2 zb.2 zb.1 zc.2 zd.2 ze.2 x.Commit x.Elapsed x.Wait x.Up) := rfl
  have hw15 : w15 = L.set i (Node.mk v (v + 1) (v + 2) za.2 zb.2 zb.1 zc.2 zd.2 ze.2 ze.1 x.Elapsed x.Wait x.Up) := by show w14.set i (Node.mk (w14.getD i Node.dz).Id (w14.getD i Node.dz).Term (w14.getD i Node.dz).Vote (w14.getD i Node.dz).Log (w14.getD i Node.dz).Start (w14.getD i Node.dz).Role (w14.getD i Node.dz).Votes (w14.getD i Node.dz).Next (w14.getD i Node.dz).Match ze.1 (w14.getD i Node.dz).Elapsed (w14.getD i Node.dz).Wait (w14.getD i Node.dz).Up) = _; rw [hw14, getD_set'' hi', List.set_set]
  have hw16 : w16 = L.set i (Node.mk v (v + 1) (v + 2) za.2 zb.2 zb.1 zc.2 zd.2 ze.2 ze.1 (ze.1 + 1) x.Wait x.Up) := by show w15.set i (Node.mk (w15.getD i Node.dz).Id (w15.getD i Node.dz).Term (w15.getD i Node.dz).Vote (w15.getD i Node.dz).Log (w15.getD i Node.dz).Start (w15.getD i Node.dz).Role (w15.getD i Node.dz).Votes (w15.getD i Node.dz).Next (w15.getD i Node.dz).Match (w15.getD i Node.dz).Commit (ze.1 + 1) (w15.getD i Node.dz).Wait (w15.getD i Node.dz).Up) = _; rw [hw15, getD_set'' hi', List.set_set]
  have hw17 : w17 = L.set i (Node.mk v (v + 1) (v + 2) za.2 zb.2 zb.1 zc.2 zd.2 ze.2 ze.1 (ze.1 + 1) (ze.1 + 2) x.Up) := by show w16.set i (Node.mk (w16.getD i Node.dz).Id (w16.getD i Node.dz).Term (w16.getD i Node.dz).Vote (w16.getD i Node.dz).Log (w16.getD i Node.dz).Start (w16.getD i Node.dz).Role (w16.getD i Node.dz).Votes (w16.getD i Node.dz).Next (w16.getD i Node.dz).Match (w16.getD i Node.dz).Commit (w16.getD i Node.dz).Elapsed (ze.1 + 2) (w16.getD i Node.dz).Up) = _; rw [hw16, getD_set'' hi', List.set_set]
  have hw18 : w18 = L.set i (Node.mk v (v + 1) (v + 2) za.2 zb.2 zb.1 zc.2 zd.2 ze.2 ze.1 (ze.1 + 1) (ze.1 + 2) (Int.tmod (ze.1 + 3) 3 == 0)) := by show w17.set i (Node.mk (w17.getD i Node.dz).Id (w17.getD i Node.dz).Term (w17.getD i Node.dz).Vote (w17.getD i Node.dz).Log (w17.getD i Node.dz).Start (w17.getD i Node.dz).Role (w17.getD i Node.dz).Votes (w17.getD i Node.dz).Next (w17.getD i Node.dz).Match (w17.getD i Node.dz).Commit (w17.getD i Node.dz).Elapsed (w17.getD i Node.dz).Wait (Int.tmod (ze.1 + 3) 3 == 0)) = _; rw [hw17, getD_set'' hi', List.set_set]
  clear_value w18 w17 w16 w15 w14
  subst hw14 hw15 hw16 hw17 hw18
  simp (config := { zeta := false }) only [List.length_set, lt_dec hi', et, nn_dec, cond_true, e3', Int.toNat_natCast, getD_set'' hi', List.set_set, ob_some, wi, e1, e2, e3, hza, hzb, f1, hzc, hzd, hze, g1, g2, g3, g4]
  exact ⟨_, _, rfl, by omega, by omega⟩
theorem mkDoneS {N : Nat} (hN : Big N) (a : List Done) (c : Int) (h : a.length ≤ 1048576) (h0 : 0 ≤ c) (hb : c + 6 * a.length + 100000000 ≤ T17) : ∃ z : Int × List Done, laws_markDoneS.m N a c = some z ∧ c ≤ z.1 ∧ z.1 ≤ c + 6 * a.length := by
  unfold laws_markDoneS.m laws_markDoneS.lp2
  have hT : T17 = 100000000000000000 := rfl
  refine mk_loop T17 (step := fun rec => laws_markDoneS.step2 N a c rec) (a := a) (g := 6) (d := Done.dz) (N := N) (c := c) (by omega) (by omega) h0 (by omega) (fun i hi L v rec hl hx k0 k1 => ?_) (fun L v rec hl => by
    simp (config := { zeta := false }) only [laws_markDoneS.step2, hl, ge_dec, cond_false])
  have hi' : i < L.length := by omega
  have wi := w_up i _ hi h
  have e1 : w64 (v + 1) = v + 1 := (w_b (by omega) (by omega)).trans (by omega)
  have e2 : w64 (v + 1 + 1) = v + 2 := (w_b (by omega) (by omega)).trans (by omega)
  have e3 : w64 (v + 2 + 1) = v + 3 := (w_b (by omega) (by omega)).trans (by omega)
  have e4 : w64 (v + 3 + 1) = v + 4 := (w_b (by omega) (by omega)).trans (by omega)
  have e5 : w64 (v + 4 + 1) = v + 5 := (w_b (by omega) (by omega)).trans (by omega)
  have e6 : w64 (v + 5 + 1) = v + 6 := (w_b (by omega) (by omega)).trans (by omega)
  obtain ⟨s, hs⟩ := mkText hN (v + 5) (by omega)
  simp (config := { zeta := false }) only [laws_markDoneS.step2, lt_dec hi', nn_dec, cond_true, Int.toNat_natCast, wi, e1, e2, e3, e4, e5, e6, hs]
  extract_lets w1 w2 w3 w4 w5
  have h1 : ∃ y, w1 = L.set i y := ⟨_, rfl⟩
  have h2 : ∃ y, w2 = L.set i y := set_ex (w := w1) h1
  have h3 : ∃ y, w3 = L.set i y := set_ex (w := w2) h2
  have h4 : ∃ y, w4 = L.set i y := set_ex (w := w3) h3
  have h5 : ∃ y, w5 = L.set i y := set_ex (w := w4) h4
  clear_value w5 w4 w3 w2 w1
  obtain ⟨y1, rfl⟩ := h1; obtain ⟨y2, rfl⟩ := h2; obtain ⟨y3, rfl⟩ := h3; obtain ⟨y4, rfl⟩ := h4; obtain ⟨y5, rfl⟩ := h5
  simp only [List.length_set, lt_dec hi', nn_dec, cond_true, Int.toNat_natCast, getD_set'' hi', List.set_set, ob_some, wi, e1, e2, e3, e4, e5, e6, hs]
  exact ⟨_, _, rfl, by omega, by omega⟩
theorem mkLeadS {N : Nat} (hN : Big N) (a : List Lead) (c : Int) (h : a.length ≤ 1048576) (hw : ∀ n ∈ a, n.Log.length ≤ 1048576) (h0 : 0 ≤ c) (hb : c + 4000000 * a.length + 100000000 ≤ T17) : ∃ z : Int × List Lead, laws_markLeadS.m N a c = some z ∧ c ≤ z.1 ∧ z.1 ≤ c + 4000000 * a.length := by
  unfold laws_markLeadS.m laws_markLeadS.lp2
  have hT : T17 = 100000000000000000 := rfl
  refine mk_loop T17 (step := fun rec => laws_markLeadS.step2 N a c rec) (a := a) (g := 4000000) (d := Lead.dz) (N := N) (c := c) (by omega) (by omega) h0 (by omega) (fun i hi L v rec hl hx k0 k1 => ?_) (fun L v rec hl => by simp [laws_markLeadS.step2, hl])
  have hi' : i < L.length := by omega
  have et : decide (i < L.length) = true := decide_eq_true hi'
  have e1 : w64 (v + 1) = v + 1 := w_b (by omega) (by omega)
  have e2 : w64 (v + 1 + 1) = v + 2 := by rw [w_b (by omega) (by omega)]; omega
  obtain ⟨z, hz, z1, z2⟩ := mkEnt hN (a[i]).Log (v + 2) (hw _ (List.getElem_mem hi)) (by omega) (by omega)
  have : ∃ y, laws_markLeadS.step2 N a c rec (v, (i : Int), L) = rec (z.1, ((i + 1 : Nat) : Int), L.set i y) := by
    simp only [laws_markLeadS.step2, List.length_set, lt_dec hi', et, nn_dec, cond_true, Int.toNat_natCast, e1, e2, getD_set'' hi', hx, hz, ob_some, List.set_set, w_up i _ hi h]
    exact ⟨_, rfl⟩
  obtain ⟨y, hy⟩ := this
  exact ⟨_, y, hy, by omega, by omega⟩
theorem mkGroup {N : Nat} (hN : Big N) (x : Group) (h : GroupSz x) : ∃ z : Int × Group, laws_markGroup.m N x 1 = some z ∧ 0 ≤ z.1 := by
  have n1 := h.Nodes; have n2 := h.Wire; have n3 := h.Leads; have n4 := h.Dones
  simp only [M20] at n1 n2 n3 n4
  unfold laws_markGroup.m
  obtain ⟨a, ha, a1, a2⟩ := mkNodeS hN x.Nodes 1 n1 (fun n hn => (h.NodesW n hn).sz) (by omega) (by simp only [T17]; omega)
  obtain ⟨b, hb, b1, b2⟩ := mkMessageS hN x.Wire a.1 n2 (fun n hn => (h.WireW n hn).Entries) (by omega) (by simp only [T17]; omega)
  obtain ⟨d, hd, d1, d2⟩ := mkLeadS hN x.Leads b.1 n3 (fun n hn => (h.LeadsW n hn).Log) (by omega) (by simp only [T17]; omega)
  obtain ⟨e, he, e1, e2⟩ := mkDoneS hN x.Dones d.1 n4 (by omega) (by simp only [T17]; omega)
  rw [ha, ob_some, hb, ob_some, hd, ob_some, he, ob_some]
  exact ⟨_, rfl, by simp only; omega⟩
theorem eqStrS {N : Nat} (hN : Big N) (a : List ByteArray) (h : a.length ≤ 1048576) : laws_eqStringS.m N a a = some true := by
  unfold laws_eqStringS.m laws_eqStringS.lp4
  simp only [bne_self_eq_false, cond_false]
  exact miter_up (n := a.length) (st := fun i => (i : Int)) (fun i hi rec => by
    simp only [laws_eqStringS.step4, lt_dec hi, nn_dec, cond_true, Int.toNat_natCast, seq_self, Bool.not_true, cond_false]
    rw [w_up i _ hi h]) (fun rec => by simp [laws_eqStringS.step4]) a.length 0 N (by omega) (by omega)
noncomputable def fStr (N : Nat) (c : Int) (_ : ByteArray) : Int × ByteArray := (w64 (c + 1), txt N c)
theorem fStr_count (N : Nat) (c : Int) (x : ByteArray) (h0 : 0 ≤ c) (h1 : c ≤ 8388608) : (fStr N c x).1 = c + 1 := w_small (by omega) (by omega)
theorem markStrS {N : Nat} (hN : Big N) (a : List ByteArray) (c : Int) (h : a.length ≤ 1048576) (h0 : 0 ≤ c) (hb' : c + a.length ≤ 8388608) : laws_markStringS.m N a c = some (marks (fStr N) c a) := by
  unfold laws_markStringS.m laws_markStringS.lp2
  exact loop_mark (f := fStr N) (fun i hi v hv rec => by
    obtain ⟨k0, k1⟩ := count_take (a := a) (fStr_count N) (by omega) (by omega) h0 (by omega) i
    simp only [laws_markStringS.step2, hv, lt_dec hi, nn_dec, cond_true, Int.toNat_natCast, txt_eq hN _ (show (marks (fStr N) c (a.take i)).1 ≤ 8388616 by omega), ob_some]
    rw [w_up i _ hi h]; rfl) (fun rec => by simp [laws_markStringS.step2, marks_length]) (by omega)
theorem heldStrS {N : Nat} (hN : Big N) (a : List ByteArray) (c : Int) (h : a.length ≤ 1048576) (h0 : 0 ≤ c) (hb' : c + a.length ≤ 8388608) : laws_heldStringS.m N (marks (fStr N) c a).2 c = some (marks (fStr N) c a).1 := by
  unfold laws_heldStringS.m laws_heldStringS.lp2
  refine loop_held (f := fStr N) (a := a) (fun i hi rec hg => ?_) (fun rec => by simp [laws_heldStringS.step2, marks_length]) (by omega)
  obtain ⟨k0, k1⟩ := count_take (a := a) (fStr_count N) (by omega) (by omega) h0 (by omega) i
  have hl : (marks (fStr N) c a).2.length = a.length := marks_length
  simp only [laws_heldStringS.step2, hl, lt_dec hi, nn_dec, cond_true, Int.toNat_natCast, List.getD_eq_getElem?_getD, hg, Option.getD_some, txt_eq hN _ (show (marks (fStr N) c (a.take i)).1 ≤ 8388616 by omega), ob_some]
  simp only [fStr, seq_self, Bool.not_true, cond_false]
  rw [w_up i _ hi h]
theorem miterK {α R : Type} (g : (α → Option R) → α → Option R) (K : Nat) (s : α) : miter g (K + 1) s = g (miter g K) s := rfl
def selK (o : Option Entry) : List ByteArray := match o with
  | none => []
  | some e => bif e.Kind == 1 then [e.Data] else []
theorem selK_len (o : Option Entry) : (selK o).length ≤ 1 := by
  unfold selK
  cases o with
  | none => simp
  | some e => simp only; cases e.Kind == 1 <;> simp
def fstK (a : List Done) (p : Int) : Option Entry := (a.find? (fun d => d.Index == p)).map (fun d => d.Entry)
def outK (a : List Done) : Nat → List ByteArray
  | 0 => []
  | j + 1 => outK a j ++ selK (fstK a ((j : Int) + 1))
theorem outK_len (a : List Done) : ∀ j, (outK a j).length ≤ j
  | 0 => Nat.le_refl _
  | j + 1 => by
    have h1 := outK_len a j
    have h2 := selK_len (fstK a ((j : Int) + 1))
    show (outK a j ++ selK _).length ≤ _
    rw [List.length_append]; omega
theorem sp6K {N : Nat} (x : Group) (r3) (p : Int) (hl : x.Dones.length ≤ 1048576) (out : List ByteArray) (ho : out.length ≤ 100) : ∀ (k i K : Nat), i + k = x.Dones.length → k < K → miter (fun rec => spec_l12Data.step6 N x r3 rec) K (p, (i : Int), x.Nodes, x.Wire, x.Leads, x.Dones, out) = r3 (w64 (p + 1), x.Nodes, x.Wire, x.Leads, x.Dones, out ++ selK (fstK (x.Dones.drop i) p))
  | 0, i, K + 1, hi, hK => by
    obtain rfl : i = x.Dones.length := by omega
    rw [miterK]
    simp only [spec_l12Data.step6, ge_dec, cond_false, List.drop_length]
    simp [fstK, selK]
  | k + 1, i, K + 1, hi, hK => by
    have hi' : i < x.Dones.length := by omega
    rw [miterK]
    have ih := sp6K (N := N) x r3 p hl out ho k (i + 1) K (by omega) (by omega)
    have hr : ∀ b : ByteArray, room (out.length + [b].length) 16 = true := fun b => roomB (by simp; omega) (by omega)
    simp only [spec_l12Data.step6, lt_dec hi', nn_dec, cond_true, Int.toNat_natCast, getD_at hi', hr]
    rw [List.drop_eq_getElem_cons hi']
    unfold fstK
    rw [List.find?_cons]
    cases hb : (x.Dones[i].Index == p) with
    | false =>
      simp only [cond_false]
      rw [w_up i _ hi' hl]
      exact ih
    | true =>
      simp only [cond_true, Option.map_some, selK]
      cases (x.Dones[i].Entry.Kind == 1) with
      | false => simp
      | true => rfl
theorem specData {N : Nat} (hN : Big N) (x : Group) (h : GroupSz x) : spec_CommittedData.m N x = some (bif grpB x then (outK x.Dones 60, 0) else ([], 1)) := by
  unfold spec_CommittedData.m
  rw [specGroup hN x h, ob_some]
  cases grpB x with
  | false => rfl
  | true =>
    simp only [Bool.not_true, cond_false, cond_true]
    have hd := h.Dones
    simp only [M20] at hd
    unfold spec_l12Data.m spec_l12Data.lp3
    have := miter_up (step := fun rec => spec_l12Data.step3 N x (spec_l12Data.lp6 N x rec) rec) (n := 60) (st := fun j => ((j : Int) + 1, x.Nodes, x.Wire, x.Leads, x.Dones, outK x.Dones j)) (r := some (outK x.Dones 60)) (fun j hj rec => by
      have ho := outK_len x.Dones j
      have e : decide ((j : Int) + 1 ≤ 60) = true := decide_eq_true (by omega)
      simp only [spec_l12Data.step3, e, cond_true, spec_l12Data.lp6]
      have := sp6K (N := N) x rec ((j : Int) + 1) hd (outK x.Dones j) (by omega) x.Dones.length 0 N (by omega) (by omega)
      refine (show _ = _ from this).trans ?_
      rw [List.drop_zero, w_small (by omega) (by omega)]
      rfl) (fun rec => rfl) 60 0 N (by omega) (by omega)
    exact congrArg (fun o => ob o fun y2 => some (y2, (0 : Int))) this
def mpF (a : List Done) : Nat → List (Int × Entry)
  | 0 => []
  | i + 1 => bif !(mpGet (dk a i).Index (mpF a i)).isSome then mpSet (dk a i).Index (dk a i).Entry (mpF a i) else mpF a i
theorem mpF_eq (a : List Done) : ∀ (i : Nat) (k : Int), i ≤ a.length → mpGet k (mpF a i) = fstK (a.take i) k
  | 0, k, _ => by simp [mpF, fstK, mpGet, mpIdx]
  | i + 1, k, h => by
    have hi : i < a.length := by omega
    have ih := fun k => mpF_eq a i k (by omega)
    have ht : a.take (i + 1) = a.take i ++ [a[i]] := by rw [List.take_add_one, List.getElem?_eq_getElem hi]; rfl
    have hd : dk a i = a[i] := getD_at hi
    show mpGet k (bif _ then _ else _) = _
    rw [ht, hd, ih]
    have hf : fstK (a.take i ++ [a[i]]) k = match fstK (a.take i) k with | some e => some e | none => if k = a[i].Index then some a[i].Entry else none := by
      unfold fstK
      rw [List.find?_append]
      cases (a.take i).find? (fun d => d.Index == k) with
      | some d => rfl
      | none =>
        simp only [Option.none_or, Option.map_none, List.find?_cons, List.find?_nil]
        by_cases hk : k = a[i].Index
        · simp [hk]
        · have : (a[i].Index == k) = false := by simp; exact fun e => hk e.symm
          rw [this, if_neg hk]; rfl
    rw [hf]
    cases hs : fstK (a.take i) a[i].Index with
    | some e =>
      simp only [Option.isSome_some, Bool.not_true, cond_false, ih]
      cases hq : fstK (a.take i) k with
      | some e' => rfl
      | none =>
        have : k ≠ a[i].Index := by rintro rfl; rw [hs] at hq; cases hq
        simp [this]
    | none =>
      simp only [Option.isSome_none, Bool.not_false, cond_true]
      rw [mpGet_set, ih]
      by_cases hk : k = a[i].Index
      · subst hk; simp [hs]
      · simp only [hk, if_false]
        cases fstK (a.take i) k <;> rfl
theorem implData {N : Nat} (hN : Big N) (x : Group) (h : GroupSz x) : impl_CommittedData.m N x = some (bif grpB x then (outK x.Dones 60, 0) else ([], 1)) := by
  unfold impl_CommittedData.m
  rw [implGroup hN x h, ob_some]
  cases grpB x with
  | false => rfl
  | true =>
    simp only [Bool.not_true, cond_false, cond_true]
    have hd := h.Dones
    have hd2 := hd
    simp only [M20] at hd2
    have h12 : impl_CommittedData.lp12 N x (1, mpF x.Dones x.Dones.length, []) = some (outK x.Dones 60, 0) := by
      unfold impl_CommittedData.lp12
      have := miter_up (step := fun rec => impl_CommittedData.step12 N x rec) (n := 60) (st := fun j => ((j : Int) + 1, mpF x.Dones x.Dones.length, outK x.Dones j)) (r := some (outK x.Dones 60, 0)) (fun j hj rec => by
        have ho := outK_len x.Dones j
        have e : decide ((j : Int) + 1 ≤ 60) = true := decide_eq_true (by omega)
        have hr : ∀ b : ByteArray, room ((outK x.Dones j).length + [b].length) 16 = true := fun b => roomB (by simp; omega) (by omega)
        have ew : w64 ((j : Int) + 1 + 1) = ((j + 1 : Nat) : Int) + 1 := by rw [w_small (by omega) (by omega)]; omega
        have eo : outK x.Dones (j + 1) = outK x.Dones j ++ selK (fstK x.Dones ((j : Int) + 1)) := rfl
        simp only [impl_CommittedData.step12, e, cond_true, mpF_eq x.Dones _ _ (Nat.le_refl _), List.take_length, hr, ew, eo]
        cases fstK x.Dones ((j : Int) + 1) with
        | none => simp [selK]
        | some d =>
          simp only [Option.getD_some, selK]
          cases d.Kind == 1 with
          | false => simp
          | true => rfl) (fun rec => rfl) 60 0 N (by omega) (by omega)
      exact this
    unfold impl_CommittedData.lp5
    have := miter_up (step := fun rec => impl_CommittedData.step5 N x (impl_CommittedData.lp12 N x) rec) (n := x.Dones.length) (st := fun i => ((x.Dones.length : Int), (i : Int), mpF x.Dones i, ([] : List ByteArray))) (r := some (outK x.Dones 60, 0)) (fun i hi rec => by
      simp only [impl_CommittedData.step5, lt_dec hi, nn_dec, cond_true, Int.toNat_natCast, dke]
      rw [w_up i _ hi hd]
      have em : mpF x.Dones (i + 1) = bif !(mpGet (dk x.Dones i).Index (mpF x.Dones i)).isSome then mpSet (dk x.Dones i).Index (dk x.Dones i).Entry (mpF x.Dones i) else mpF x.Dones i := rfl
      rw [em]
      cases (mpGet (dk x.Dones i).Index (mpF x.Dones i)).isSome <;> rfl) (fun rec => by
      simp only [impl_CommittedData.step5, ge_dec, cond_false]; exact h12) x.Dones.length 0 N (by omega) (by omega)
    exact this
theorem pureCommittedData (a0 : Group) (h0 : ∃ n, WfE E (WfA E n) (.st 27) a0) : ∃ N, laws_FnExactCommittedData.m N a0 = some true := by
  refine ⟨16777216, ?_⟩
  generalize hN' : 16777216 = N
  have hN : Big N := by omega
  unfold laws_FnExactCommittedData.m
  obtain ⟨y, e, _, hy⟩ := szGroup hN a0 1048576 (by omega) (by omega) (wfGroup h0)
  rw [groupEta, e, ob_some]
  by_cases h : y < 0
  · rw [decide_eq_true h]; rfl
  rw [decide_eq_false h, cond_false]
  have hs := hy (by omega)
  obtain ⟨z, hz, z0⟩ := mkGroup hN a0 hs
  have ez : decide (z.1 < 0) = false := decide_eq_false (by omega)
  simp only [groupEta, toGroup hN a0 hs, ob_some, specData hN a0 hs, implData hN a0 hs, eqGroup hN a0 hs, hz, ez]
  generalize hr : (bif grpB a0 then (outK a0.Dones 60, (0 : Int)) else ([], 1)) = r
  have hl : r.1.length ≤ 60 := by
    subst hr
    cases grpB a0 with
    | false => simp
    | true => exact outK_len a0.Dones 60
  have hm := marks_count (a := r.1) (c := 1) (fStr_count N) (by omega) (by omega) (by omega) (by omega)
  have en : decide ((marks (fStr N) 1 r.1).1 < 0) = false := decide_eq_false (by rw [hm]; omega)
  simp only [eqStrS hN r.1 (by omega), markStrS hN r.1 1 (by omega) (by omega) (by omega), heldStrS hN r.1 1 (by omega) (by omega) (by omega), ob_some, en, beq_self_eq_true, bne_self_eq_false, Bool.not_true, cond_false]
end Mir.Y
