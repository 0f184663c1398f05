/- The mirror machine: data handed in, out of the rows' reading of memory. -/
import Derived.Test.YtbepkbaemapkjaaMir27
import Derived.ChangeArms
namespace Mir
set_option linter.unusedVariables false
set_option linter.unusedSimpArgs false
open Go
variable {E : Env} {P : Program} {W : World}

/-! ### Data that stand in memory: lengths and ranges -/
section
variable (E)
abbrev WAT (E : Env) := (t : Ty) → Ty.D E.S t → Prop
def WfL (WA : WAT E) : (ts : List Ty) → HT E.S ts → Prop
  | [], _ => True
  | t :: ts, h => WA t h.1 ∧ WfL WA ts h.2
def WfE (WA : WAT E) : (t : Ty) → Ty.D E.S t → Prop
  | .st n, x => WfL E WA (E.fl n) (E.opn n x)
  | t, x => WA t x
def WfA : Nat → WAT E
  | _, .int k, x => (Lit.int k x).wf = true
  | _, .bool, _ => True
  | _, .str, s => s.size ≤ maxLen
  | 0, .slice _ _, _ => False
  | d + 1, .slice _ t, xs => xs.length ≤ maxLen ∧ ∀ x ∈ xs, WfE E (WfA d) t x
  | _, .st _, _ => False
  | _, .arr _ _, _ => False
  | _, .rsl _ _, _ => False
  | _, .pbx _ _, _ => False
end
theorem WfL.mono {WA WB : WAT E} (H : ∀ t x, WA t x → WB t x) : ∀ {ts : List Ty} {h : HT E.S ts}, WfL E WA ts h → WfL E WB ts h
  | [], _, _ => trivial
  | _ :: _, _, ⟨a, b⟩ => ⟨H _ _ a, WfL.mono H b⟩
theorem WfE.mono {WA WB : WAT E} (H : ∀ t x, WA t x → WB t x) {t : Ty} {x : Ty.D E.S t} (h : WfE E WA t x) : WfE E WB t x := by
  cases t with
  | st n => exact WfL.mono (E := E) H (ts := E.fl n) (h := E.opn n x) h
  | _ => exact H _ _ h
theorem WfA.more : ∀ (d d' : Nat), d ≤ d' → ∀ (t : Ty) (x : Ty.D E.S t), WfA E d t x → WfA E d' t x := by
  intro d
  induction d with
  | zero =>
    intro d' _ t x h
    cases t <;> cases d' <;> first | exact h | exact h.elim | exact False.elim h
  | succ d ih =>
    intro d' hd t x h
    cases d' with
    | zero => omega
    | succ d' =>
      cases t with
      | slice e t => exact ⟨h.1, fun x hx => (h.2 x hx).mono fun t x => ih d' (by omega) t x⟩
      | _ => exact h
/-! ### Types by their cells -/
def fieldsB (P : Program) (rec : TypeId → List Ty → Bool) : List Field → Nat → List Ty → Bool
  | [], _, ts => ts.isEmpty
  | f :: fs, off, ts => Nat.beq f.offset off && Nat.beq (ts.take (P.cellsOf f.type)).length (P.cellsOf f.type) && rec f.type (ts.take (P.cellsOf f.type)) && fieldsB P rec fs (off + P.cellsOf f.type) (ts.drop (P.cellsOf f.type))
def oneTy (E : Env) : Ty → List Ty
  | .st n => E.fl n
  | t => [t]
def cellsB (E : Env) (P : Program) : Nat → TypeId → List Ty → Bool
  | 0, _, _ => false
  | d + 1, t, ts => match P.underlying t, ts with
    | some (.int k), [.int k'] => ikEq k k'
    | some .bool, [.bool] => true
    | some .string, [.str] => true
    | some (.slice e), [.slice _ ty] => Nat.beq (P.cellsOf e) (tsz E ty) && cellsB E P d e (oneTy E ty)
    | some (.struct fs), ts => Nat.beq (P.cellsOf t) ts.length && fieldsB P (cellsB E P d) fs.toList 0 ts
    | _, _ => false
def InHeap (W : World) : Nat → Prop := fun b => b < W.heap.size
/-- Cells that are data. -/
def CellsR (E : Env) (W : World) (ts : List Ty) (cs : List Value) : Prop := ∃ (h : HT E.S ts) (n : Nat), RoL E (RoA E W (InHeap W) n) ts h cs ∧ WfL E (WfA E n) ts h
theorem CellsR.nil : CellsR E W [] [] := ⟨(), 0, rfl, trivial⟩
theorem RoL.app {RA : RAT E} {WA : WAT E} : ∀ {ts us : List Ty} {h : HT E.S ts} {k : HT E.S us} {vs ws : List Value}, RoL E RA ts h vs → RoL E RA us k ws → WfL E WA ts h → WfL E WA us k → ∃ r : HT E.S (ts ++ us), RoL E RA (ts ++ us) r (vs ++ ws) ∧ WfL E WA (ts ++ us) r
  | [], us, _, k, _, ws, h1, h2, _, w2 => by rw [RoL] at h1; subst h1; exact ⟨k, h2, w2⟩
  | t :: ts, us, h, k, _, ws, ⟨v, r, hv, ha, hr⟩, h2, w1, w2 => by
    obtain ⟨q, h3, h4⟩ := RoL.app hr h2 w1.2 w2
    subst hv
    exact ⟨(h.1, q), ⟨v, r ++ ws, rfl, ha, h3⟩, w1.1, h4⟩
theorem CellsR.app {ts us : List Ty} {vs ws : List Value} (h : CellsR E W ts vs) (k : CellsR E W us ws) : CellsR E W (ts ++ us) (vs ++ ws) := by
  obtain ⟨a, n, h1, h2⟩ := h
  obtain ⟨b, m, k1, k2⟩ := k
  have mo : ∀ i, i ≤ max n m → ∀ t x v, RoA E W (InHeap W) i t x v → RoA E W (InHeap W) (max n m) t x v := fun i hi t x v => RoA.more (fun _ h => h) (fun _ _ => rfl) i _ hi t x v
  obtain ⟨r, h3, h4⟩ := RoL.app (h1.mono fun t x v => mo n (Nat.le_max_left ..) t x v) (k1.mono fun t x v => mo m (Nat.le_max_right ..) t x v) (h2.mono fun t x => WfA.more n _ (Nat.le_max_left ..) t x) (k2.mono fun t x => WfA.more m _ (Nat.le_max_right ..) t x)
  exact ⟨r, _, h3, h4⟩
theorem cells?_spec {base : Nat} {a : Addr} {n : Nat} {cs : List Value} (h : W.cells? base a n = some cs) : cs.length = n ∧ ∀ (j : Nat) (hj : j < cs.length), W.cell? (a.add j) = some cs[j] := by
  unfold World.cells? at h
  split at h
  · have hl := mapM_some_length h
    rw [List.length_range] at hl
    refine ⟨hl, fun j hj => ?_⟩
    have := mapM_some_get h j j (by rw [List.getElem?_range]; omega)
    rw [this, List.getElem?_eq_getElem hj]
  · cases h
theorem cell_block {a : Addr} {v : Value} (h : W.cell? a = some v) : a.block < W.heap.size := by
  by_cases hb : a.block < W.heap.size
  · exact hb
  · exfalso
    unfold World.cell? at h
    rw [Array.getElem?_eq_none (by omega)] at h
    simp at h
theorem one_cells {n : Nat} {t : Ty} {vs : List Value} : (∃ h : HT E.S (oneTy E t), RoL E (RoA E W (InHeap W) n) (oneTy E t) h vs ∧ WfL E (WfA E n) (oneTy E t) h) → ∃ x : Ty.D E.S t, RoE E (RoA E W (InHeap W) n) t x vs ∧ WfE E (WfA E n) t x := by
  rintro ⟨h, h1, h2⟩
  cases t with
  | st m =>
    have h1 : RoL E (RoA E W (InHeap W) n) (E.fl m) h vs := h1
    have h2 : WfL E (WfA E n) (E.fl m) h := h2
    refine ⟨E.shut m (show HT E.S (E.fl m) from h), ?_, ?_⟩
    · show RoL E (RoA E W (InHeap W) n) (E.fl m) (E.opn m (E.shut m (show HT E.S (E.fl m) from h))) vs
      rw [E.opn_shut]; exact h1
    · show WfL E (WfA E n) (E.fl m) (E.opn m (E.shut m (show HT E.S (E.fl m) from h)))
      rw [E.opn_shut]; exact h2
  | _ =>
    obtain ⟨v, r, hv, ha, hr⟩ := h1
    rw [RoL] at hr
    subst hr
    exact ⟨h.1, ⟨v, hv, ha⟩, h2.1⟩
theorem choose_list {α : Type} {p : Nat → α → Prop} : ∀ (n : Nat), (∀ i, i < n → ∃ x, p i x) → ∃ xs : List α, xs.length = n ∧ ∀ (i : Nat) (h : i < xs.length), p i xs[i]
  | 0, _ => ⟨[], rfl, fun i h => absurd h (by simp)⟩
  | n + 1, h => by
    obtain ⟨xs, h1, h2⟩ := choose_list n fun i hi => h i (Nat.lt_succ_of_lt hi)
    obtain ⟨x, hx⟩ := h n (Nat.lt_succ_self _)
    refine ⟨xs ++ [x], by simp [h1], fun i hi => ?_⟩
    by_cases e : i < xs.length
    · rw [List.getElem_append_left e]; exact h2 i e
    · have : i = n := by simp at hi; omega
      subst this
      rw [List.getElem_append_right (by omega)]
      simpa [h1] using hx
theorem open_cells {H : Type} {enc : TypeId × Value → H} {base : Nat} {spare : Nat → Bool} {held : Bool} : ∀ (d : Nat) (t : TypeId) (ts : List Ty), cellsB E P d t ts = true → ∃ m, ∀ (fuel : Nat) (cs : List Value) (x : DataW H × List MemPlace), DataW.trod enc P W base spare held fuel t cs = some x →
    ∃ h : HT E.S ts, RoL E (RoA E W (InHeap W) m) ts h cs ∧ WfL E (WfA E m) ts h
  | 0, _, _, h => by cases h
  | d + 1, t, ts, h => by
    unfold cellsB at h
    split at h
    · rename_i k k' hu
      obtain rfl := ikEq_eq h
      refine ⟨0, fun fuel cs x hx => ?_⟩
      obtain ⟨n, rfl, _, hw⟩ := DataW.trod_int hu hx
      exact ⟨(n, ()), ⟨_, [], rfl, rfl, rfl⟩, hw, trivial⟩
    · rename_i hu
      refine ⟨0, fun fuel cs x hx => ?_⟩
      obtain ⟨b, rfl, _⟩ := DataW.trod_bool hu hx
      exact ⟨(b, ()), ⟨_, [], rfl, rfl, rfl⟩, trivial, trivial⟩
    · rename_i hu
      refine ⟨0, fun fuel cs x hx => ?_⟩
      obtain ⟨s, rfl, _, hs⟩ := DataW.trod_string hu hx
      exact ⟨(s, ()), ⟨_, [], rfl, rfl, rfl⟩, hs, trivial⟩
    · rename_i e e' ty hu
      simp only [Bool.and_eq_true] at h
      have hsz := Nat.eq_of_beq_eq_true h.1
      obtain ⟨m, ih⟩ := open_cells (H := H) (enc := enc) (base := base) (spare := spare) (held := held) d e _ h.2
      refine ⟨m + 1, fun fuel cs x hx => ?_⟩
      rcases DataW.trod_slice hu hx with ⟨rfl, _⟩ | ⟨a, len, cap, elems, rest, n, _, rfl, _, _, hl, hm, hlen, hel, _⟩
      · exact ⟨(([] : List (Ty.D E.S ty)), ()), ⟨_, [], rfl, ⟨none, 0, rfl, Nat.le_refl _, fun h => absurd h (by simp)⟩, rfl⟩, ⟨Nat.zero_le _, fun x hx => absurd hx (List.not_mem_nil)⟩, trivial⟩
      · have each : ∀ i, i < len → ∃ y : Ty.D E.S ty, ∃ vs, RoE E (RoA E W (InHeap W) m) ty y vs ∧ WfE E (WfA E m) ty y ∧ (∀ (j : Nat) (hj : j < vs.length), W.cell? (a.add (i * tsz E ty + j)) = some vs[j]) := by
          intro i hi
          have h1 := hel i hi
          rw [List.getElem?_eq_getElem (by omega)] at h1
          obtain ⟨cs', h2, h3⟩ := Option.bind_eq_some_iff.1 h1
          obtain ⟨hc1, hc2⟩ := cells?_spec h2
          obtain ⟨y, hy1, hy2⟩ := one_cells (ih n cs' _ h3)
          refine ⟨y, cs', hy1, hy2, fun j hj => ?_⟩
          have := hc2 j hj
          rw [add_add, hsz] at this
          exact this
        obtain ⟨xs, hx1, hx2⟩ := choose_list len each
        refine ⟨(xs, ()), ⟨_, [], rfl, ⟨some a, cap, by rw [hx1], by show xs.length ≤ cap; omega, fun h0 => ⟨a, rfl, ?_, fun i hi => ?_⟩⟩, rfl⟩, ⟨by show xs.length ≤ maxLen; omega, fun x hx => ?_⟩, trivial⟩
        · obtain ⟨vs, h4, _, h5⟩ := hx2 0 h0
          have hl := h4.length
          have hp := tsz_pos E ty
          have := cell_block (h5 0 (by omega))
          have e : (a.add (0 * tsz E ty + 0)).block = a.block := by unfold Addr.add; split <;> rfl
          rw [e] at this
          exact this
        · obtain ⟨vs, h4, _, h5⟩ := hx2 i hi
          exact ⟨vs, h4, h5⟩
        · obtain ⟨i, hi, rfl⟩ := List.getElem_of_mem hx
          obtain ⟨vs, _, h5, _⟩ := hx2 i hi
          exact h5
    · rename_i ts' fs hu
      simp only [Bool.and_eq_true] at h
      obtain ⟨hlt, h⟩ := h
      -- each field's own bound
      have key : ∀ (l : List Field) (off : Nat) (us : List Ty), fieldsB P (cellsB E P d) l off us = true → ∃ m, ∀ (n : Nat) (cs : List Value), cs.length = off + us.length → (∀ f ∈ l, ∃ x, DataW.trod enc P W base spare held n f.type ((cs.drop f.offset).take (P.cellsOf f.type)) = some x) →
          ∃ h : HT E.S us, RoL E (RoA E W (InHeap W) m) us h (cs.drop off) ∧ WfL E (WfA E m) us h := by
        intro l
        induction l with
        | nil =>
          intro off us h
          simp only [fieldsB, List.isEmpty_iff] at h
          subst h
          refine ⟨0, fun n cs hl _ => ⟨(), ?_, trivial⟩⟩
          show cs.drop off = []
          exact List.drop_eq_nil_of_le (by rw [hl]; simp)
        | cons f l ih2 =>
          intro off us h
          simp only [fieldsB, Bool.and_eq_true] at h
          obtain ⟨⟨⟨h1, h2⟩, h3⟩, h4⟩ := h
          have h1 := Nat.eq_of_beq_eq_true h1
          have h2 := Nat.eq_of_beq_eq_true h2
          obtain ⟨m1, i1⟩ := open_cells (H := H) (enc := enc) (base := base) (spare := spare) (held := held) d f.type _ h3
          obtain ⟨m2, i2⟩ := ih2 _ _ h4
          have hus : us.take (P.cellsOf f.type) ++ us.drop (P.cellsOf f.type) = us := List.take_append_drop _ _
          refine ⟨max m1 m2, fun n cs hl hf => ?_⟩
          obtain ⟨x, hx⟩ := hf f (List.mem_cons_self ..)
          rw [h1] at hx
          obtain ⟨k1, k2, k3⟩ := i1 n _ x hx
          have hle : P.cellsOf f.type ≤ us.length := by
            rw [List.length_take] at h2; omega
          obtain ⟨k4, k5, k6⟩ := i2 n cs (by rw [hl, List.length_drop]; omega) (fun g hg => hf g (List.mem_cons_of_mem _ hg))
          have hq := RoL.app (k2.mono fun t x v => RoA.more (fun _ h => h) (fun _ _ => rfl) m1 _ (Nat.le_max_left m1 m2) t x v) (k5.mono fun t x v => RoA.more (fun _ h => h) (fun _ _ => rfl) m2 _ (Nat.le_max_right m1 m2) t x v) (k3.mono fun t x => WfA.more m1 _ (Nat.le_max_left m1 m2) t x) (k6.mono fun t x => WfA.more m2 _ (Nat.le_max_right m1 m2) t x)
          have hcs : (cs.drop off).take (P.cellsOf f.type) ++ cs.drop (off + P.cellsOf f.type) = cs.drop off := by
            rw [← List.drop_drop]; exact List.take_append_drop _ _
          rw [hcs, hus] at hq
          exact hq
      obtain ⟨m, hm⟩ := key fs.toList 0 _ h
      refine ⟨m, fun fuel cs x hx => ?_⟩
      obtain ⟨xs, n, _, _, hl, hlen, hf⟩ := DataW.trod_struct hu hx
      have := hm n cs (by rw [hl, Nat.zero_add]; exact Nat.eq_of_beq_eq_true hlt) (fun f hf' => by
        obtain ⟨i, hi, he⟩ := List.getElem_of_mem hf'
        have hi' : fs[i]? = some f := by simp [← he]
        have h1 := hf i f hi'
        have hix : i < xs.length := by rw [hlen]; simpa using hi
        rw [List.getElem?_eq_getElem hix] at h1
        exact ⟨_, h1⟩)
      simpa using this
    · cases h
end Mir
