/- The mirror machine: a law's arguments whose types hold themselves. -/
import Derived.Test.YtbepkbaemapkjaaGreatMir29
namespace Mir
set_option linter.unusedVariables false
set_option linter.unusedSimpArgs false
open Go
variable {E : Env} {P : Program} {W : World}
def tysB : List Ty → List Ty → Bool
  | [], [] => true
  | a :: as, b :: bs => (Ty.eqd a b).isSome && tysB as bs
  | _, _ => false
theorem tysB_eq : ∀ {a b : List Ty}, tysB a b = true → a = b
  | [], [], _ => rfl
  | a :: as, b :: bs, h => by
    simp only [tysB, Bool.and_eq_true] at h
    obtain ⟨h1, h2⟩ := h
    cases hq : Ty.eqd a b with
    | none => rw [hq] at h1; cases h1
    | some p => obtain ⟨h3⟩ := p; rw [h3, tysB_eq h2]
  | [], _ :: _, h => by cases h
  | _ :: _, [], h => by cases h
/-- A row of types by their cells. -/
def inB (L : List (TypeId × List Ty)) (t : TypeId) (ts : List Ty) : Bool := L.any fun p => Nat.beq p.1 t && tysB p.2 ts
theorem inB_mem {L : List (TypeId × List Ty)} {t : TypeId} {ts : List Ty} (h : inB L t ts = true) : (t, ts) ∈ L := by
  unfold inB at h
  rw [List.any_eq_true] at h
  obtain ⟨⟨a, b⟩, hp, h⟩ := h
  rw [Bool.and_eq_true] at h
  have h1 : a = t := Nat.eq_of_beq_eq_true h.1
  have h2 : b = ts := tysB_eq h.2
  subst h1; subst h2
  exact hp
def stepB (E : Env) (P : Program) (L : List (TypeId × List Ty)) (t : TypeId) (ts : List Ty) : Bool := match P.underlying t, ts with
  | some (.int k), [.int k'] => ikEq k k'
  | some .bool, [.bool] => true
  | some .string, [.str] => true
  | some (.slice e), [.slice _ ty] => Nat.beq (P.cellsOf e) (tsz E ty) && inB L e (oneTy E ty)
  | some (.struct fs), ts => Nat.beq (P.cellsOf t) ts.length && fieldsB P (inB L) fs.toList 0 ts
  | _, _ => false
def clB (E : Env) (P : Program) (L : List (TypeId × List Ty)) : Bool := L.all fun p => stepB E P L p.1 p.2
theorem clB_step {L : List (TypeId × List Ty)} (hL : clB E P L = true) {t : TypeId} {ts : List Ty} (h : inB L t ts = true) : stepB E P L t ts = true := by
  unfold clB at hL
  rw [List.all_eq_true] at hL
  exact hL _ (inB_mem h)
theorem open_cellsR {H : Type} {enc : TypeId × Value → H} {base : Nat} {spare : Nat → Bool} {held : Bool} {L : List (TypeId × List Ty)} (hL : clB E P L = true) : ∀ (fuel : Nat) (t : TypeId) (ts : List Ty), inB L t ts = true → ∀ (cs : List Value) (x : DataW H × List MemPlace), DataW.trod enc P W base spare held fuel t cs = some x →
    ∃ h : HT E.S ts, RoL E (RoA E W (InHeap W) fuel) ts h cs ∧ WfL E (WfA E fuel) ts h := by
  intro fuel
  induction fuel with
  | zero => intro t ts _ cs x hx; unfold DataW.trod at hx; cases hx
  | succ fuel IH =>
    intro t ts hin cs x hx
    have h := clB_step hL hin
    unfold stepB at h
    split at h
    · rename_i k k' hu
      obtain rfl := ikEq_eq h
      obtain ⟨n, rfl, _, hw⟩ := DataW.trod_int hu hx
      exact ⟨(n, ()), ⟨_, [], rfl, rfl, rfl⟩, hw, trivial⟩
    · rename_i hu
      obtain ⟨b, rfl, _⟩ := DataW.trod_bool hu hx
      exact ⟨(b, ()), ⟨_, [], rfl, rfl, rfl⟩, trivial, trivial⟩
    · rename_i hu
      obtain ⟨s, rfl, _, hs⟩ := DataW.trod_string hu hx
      exact ⟨(s, ()), ⟨_, [], rfl, rfl, rfl⟩, hs, trivial⟩
    · rename_i e e' ty hu
      simp only [Bool.and_eq_true] at h
      have hsz := Nat.eq_of_beq_eq_true h.1
      have ih := IH e _ h.2
      rcases DataW.trod_slice hu hx with ⟨rfl, _⟩ | ⟨a, len, cap, elems, rest, n, hn, rfl, _, _, hl, hm, hlen, hel, _⟩
      · exact ⟨(([] : List (Ty.D E.S ty)), ()), ⟨_, [], rfl, ⟨none, 0, rfl, Nat.le_refl _, fun h => absurd h (by simp)⟩, rfl⟩, ⟨Nat.zero_le _, fun x hx => absurd hx (List.not_mem_nil)⟩, trivial⟩
      · have each : ∀ i, i < len → ∃ y : Ty.D E.S ty, ∃ vs, RoE E (RoA E W (InHeap W) fuel) ty y vs ∧ WfE E (WfA E fuel) ty y ∧ (∀ (j : Nat) (hj : j < vs.length), W.cell? (a.add (i * tsz E ty + j)) = some vs[j]) := by
          intro i hi
          have h1 := hel i hi
          rw [List.getElem?_eq_getElem (by omega)] at h1
          obtain ⟨cs', h2, h3⟩ := Option.bind_eq_some_iff.1 h1
          obtain ⟨hc1, hc2⟩ := cells?_spec h2
          obtain rfl : fuel = n := by omega
          obtain ⟨y, hy1, hy2⟩ := one_cells (ih cs' _ h3)
          refine ⟨y, cs', hy1, hy2, fun j hj => ?_⟩
          have := hc2 j hj
          rw [add_add, hsz] at this
          exact this
        obtain ⟨xs, hx1, hx2⟩ := choose_list len each
        refine ⟨(xs, ()), ⟨_, [], rfl, ⟨some a, cap, by rw [hx1], by show xs.length ≤ cap; omega, fun h0 => ⟨a, rfl, ?_, fun i hi => ?_⟩⟩, rfl⟩, ⟨by show xs.length ≤ maxLen; omega, fun x hx => ?_⟩, trivial⟩
        · obtain ⟨vs, h4, _, h5⟩ := hx2 0 h0
          have hl := h4.length
          have hp := tsz_pos E ty
          have := cell_block (h5 0 (by omega))
          have e : (a.add (0 * tsz E ty + 0)).block = a.block := by unfold Addr.add; split <;> rfl
          rw [e] at this
          exact this
        · obtain ⟨vs, h4, _, h5⟩ := hx2 i hi
          exact ⟨vs, h4, h5⟩
        · obtain ⟨i, hi, rfl⟩ := List.getElem_of_mem hx
          obtain ⟨vs, _, h5, _⟩ := hx2 i hi
          exact h5
    · rename_i ts' fs hu
      simp only [Bool.and_eq_true] at h
      obtain ⟨hlt, h⟩ := h
      have key : ∀ (l : List Field) (off : Nat) (us : List Ty), fieldsB P (inB L) l off us = true → ∀ (cs : List Value), cs.length = off + us.length → (∀ f ∈ l, ∃ x, DataW.trod enc P W base spare held fuel f.type ((cs.drop f.offset).take (P.cellsOf f.type)) = some x) →
          ∃ h : HT E.S us, RoL E (RoA E W (InHeap W) fuel) us h (cs.drop off) ∧ WfL E (WfA E fuel) us h := by
        intro l
        induction l with
        | nil =>
          intro off us h
          simp only [fieldsB, List.isEmpty_iff] at h
          subst h
          refine fun cs hl _ => ⟨(), ?_, trivial⟩
          show cs.drop off = []
          exact List.drop_eq_nil_of_le (by rw [hl]; simp)
        | cons f l ih2 =>
          intro off us h
          simp only [fieldsB, Bool.and_eq_true] at h
          obtain ⟨⟨⟨h1, h2⟩, h3⟩, h4⟩ := h
          have h1 := Nat.eq_of_beq_eq_true h1
          have h2 := Nat.eq_of_beq_eq_true h2
          have hus : us.take (P.cellsOf f.type) ++ us.drop (P.cellsOf f.type) = us := List.take_append_drop _ _
          refine fun cs hl hf => ?_
          obtain ⟨x, hx⟩ := hf f (List.mem_cons_self ..)
          rw [h1] at hx
          obtain ⟨k1, k2, k3⟩ := IH f.type _ h3 _ x hx
          have hle : P.cellsOf f.type ≤ us.length := by
            rw [List.length_take] at h2; omega
          obtain ⟨k4, k5, k6⟩ := ih2 _ _ h4 cs (by rw [hl, List.length_drop]; omega) (fun g hg => hf g (List.mem_cons_of_mem _ hg))
          have hq := RoL.app k2 k5 k3 k6
          have hcs : (cs.drop off).take (P.cellsOf f.type) ++ cs.drop (off + P.cellsOf f.type) = cs.drop off := by
            rw [← List.drop_drop]; exact List.take_append_drop _ _
          rw [hcs, hus] at hq
          exact hq
      obtain ⟨xs, n, hn, _, hl, hlen, hf⟩ := DataW.trod_struct hu hx
      obtain rfl : fuel = n := by omega
      have := key fs.toList 0 _ h cs (by rw [hl, Nat.zero_add]; exact Nat.eq_of_beq_eq_true hlt) (fun f hf' => by
        obtain ⟨i, hi, he⟩ := List.getElem_of_mem hf'
        have hi' : fs[i]? = some f := by simp [← he]
        have h1 := hf i f hi'
        have hix : i < xs.length := by rw [hlen]; simpa using hi
        rw [List.getElem?_eq_getElem hix] at h1
        exact ⟨_, h1⟩)
      rw [List.drop_zero] at this
      obtain ⟨h, k1, k2⟩ := this
      exact ⟨h, k1.mono fun t x v => RoA.more (fun _ h => h) (fun _ _ => rfl) fuel _ (Nat.le_succ _) t x v, k2.mono fun t x => WfA.more fuel _ (Nat.le_succ _) t x⟩
    · cases h
/-- As tyB, for types that hold themselves: L a closed table. -/
def tyR (E : Env) (P : Program) (L : List (TypeId × List Ty)) (t : TypeId) : Ty → Bool
  | .st n => (match P.underlying t with | some (.struct _) => true | _ => false) && (clB E P L && inB L t (E.fl n))
  | ty => (match P.underlying t with | some (.struct _) => false | _ => true) && (clB E P L && inB L t [ty])
theorem open_valR {H : Type} {enc : TypeId × Value → H} {base b0 : Nat} {spare : Nat → Bool} {held : Bool} {r : Reach} (L : List (TypeId × List Ty)) (t : TypeId) (ty : Ty) (hc : tyR E P L t ty = true) {v : Value} {x : DataW H} {ps : List MemPlace} (hval : Value.okWide P W r b0 t v) (hd : DataW.Trod enc P W base spare held t v x ps) :
    ∃ y : Ty.D E.S ty, RoV E W (InHeap W) ty y v ∧ ∃ n, WfE E (WfA E n) ty y := by
  obtain ⟨fuel, hf⟩ := hd
  cases ty with
  | st n =>
    simp only [tyR, Bool.and_eq_true] at hc
    obtain ⟨h1, h0, h2⟩ := hc
    split at h1
    · rename_i fs hu
      obtain ⟨cs, rfl, _⟩ := WideShapes.okWide_struct hu hval
      obtain ⟨h, h3, h4⟩ := open_cellsR (H := H) (enc := enc) (base := base) (spare := spare) (held := held) (W := W) h0 fuel t _ h2 _ _ hf
      refine ⟨E.shut n h, ⟨cs.toList, fuel, by simp, by rw [E.opn_shut]; exact h3⟩, fuel, ?_⟩
      show WfL E (WfA E fuel) (E.fl n) (E.opn n (E.shut n h))
      rw [E.opn_shut]; exact h4
    · cases h1
  | arr k n =>
    simp only [tyR, Bool.and_eq_true] at hc
    obtain ⟨h, h3, h4⟩ := open_cellsR (H := H) (enc := enc) (base := base) (spare := spare) (held := held) (W := W) hc.2.1 fuel t _ hc.2.2 _ _ hf
    have h5 : WfA E fuel (.arr k n) h.1 := h4.1
    cases fuel <;> exact h5.elim
  | pbx b n =>
    simp only [tyR, Bool.and_eq_true] at hc
    obtain ⟨h, h3, h4⟩ := open_cellsR (H := H) (enc := enc) (base := base) (spare := spare) (held := held) (W := W) hc.2.1 fuel t _ hc.2.2 _ _ hf
    have h5 : WfA E fuel (.pbx b n) h.1 := h4.1
    cases fuel <;> exact False.elim h5
  | _ =>
    simp only [tyR, Bool.and_eq_true] at hc
    obtain ⟨h1, h0, h2⟩ := hc
    obtain ⟨h, h3, h4⟩ := open_cellsR (H := H) (enc := enc) (base := base) (spare := spare) (held := held) (W := W) h0 fuel t _ h2 _ _ hf
    obtain ⟨w, r', hw, ha, hr⟩ := h3
    rw [RoL] at hr
    subst hr
    have hcell : v.cells.toList = [v] := by
      have h2 := clB_step h0 h2
      unfold stepB at h2
      split at h2
      · rename_i hu _; obtain ⟨_, rfl⟩ := WideShapes.okWide_int hu hval; rfl
      · rename_i hu _; obtain ⟨_, rfl⟩ := WideShapes.okWide_bool hu hval; rfl
      · rename_i hu _; obtain ⟨_, rfl⟩ := WideShapes.okWide_string hu hval; rfl
      · rename_i hu _; obtain ⟨_, _, _, rfl⟩ := WideShapes.okWide_slice hu hval; rfl
      · rename_i hu; rw [hu] at h1; cases h1
      · cases h2
    rw [hcell] at hw
    cases hw
    exact ⟨h.1, ⟨fuel, ha⟩, fuel, h4.1⟩
end Mir
