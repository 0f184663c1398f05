/- The mirror machine: deep rows, 1: plain facts of deep data; blocks that are given up. -/
import Derived.Test.YtbepkbaemapkjaaMir19
namespace Mir
set_option linter.unusedVariables false
set_option linter.unusedSimpArgs false
open Go
variable {E : Env} {P : Program} {T : Tb} {cx : Cx} {G G' : Gh} {S : St E} {tm : Array Value} {a : Act} {W W' : World}

/-! ### Data read back out of cells -/
theorem ofAt_toAt {t : Ty} {x : Ty.D E.S t} {l l' : List Nat} {d : Ty.D E.S t} (h : RM.Out S.h (ofAt E t (toAt E t x)) l d l') : d = x := by
  cases t with
  | int k => exact (RM.Out_bif h).2.1
  | bool => exact h.1
  | str => exact h.1
  | slice e t => obtain ⟨_, ht, hd⟩ := castR_sound h; exact hd
  | rsl e t => obtain ⟨_, ht, hd⟩ := castR_sound h; exact hd
  | st n => exact h.elim
  | arr k n => exact h.elim
  | pbx b n => exact h.elim
theorem ofAts_toAts : ∀ {ts : List Ty} {h : HT E.S ts} {l l' : List Nat} {d : HT E.S ts}, RM.Out S.h (ofAts E ts (toAts E ts h)) l d l' → d = h
  | [], _, _, _, _, _ => rfl
  | t :: ts, h, _, _, d, ho => by
    obtain ⟨y, l1, h1, ho⟩ := RM.Out_bind ho
    obtain ⟨z, l2, h2, ho⟩ := RM.Out_bind ho
    obtain rfl := ho.1
    rw [ofAt_toAt h1, ofAts_toAts h2]
/-! ### Cells of a deep struct -/
def SimpR : At E → Value → Prop
  | .int k n, v => v = .int k n
  | .bool b, v => v = .bool b
  | .str s, v => v = .string s
  | _, _ => False
theorem SimpR.deep {d : Nat} {t : Ty} {x : At E} {v : Value} (h : SimpR x v) {l l' : List Nat} {y : Ty.D E.S t} (ho : RM.Out S.h (ofAt E t x) l y l') : DeepA E W d t y v [] := by
  cases x with
  | int k n =>
    cases t with
    | int k' =>
      have hb' := RM.Out_bif ho; clear ho; obtain ⟨hk, ho⟩ := hb'
      obtain rfl := ikEq_eq hk
      obtain rfl := ho.1
      cases d <;> exact ⟨h, rfl⟩
    | _ => exact ho.elim
  | bool b =>
    cases t with
    | bool => obtain rfl := ho.1; cases d <;> exact ⟨h, rfl⟩
    | _ => exact ho.elim
  | str s =>
    cases t with
    | str => obtain rfl := ho.1; cases d <;> exact ⟨h, rfl⟩
    | _ => exact ho.elim
  | _ => exact h.elim
theorem SimpR.none {d : Nat} {t : Ty} {x : At E} {v v0 : Value} {f : List Nat} {y0 : Ty.D E.S t} (h : SimpR x v) {l l' : List Nat} {y : Ty.D E.S t} (ho : RM.Out S.h (ofAt E t x) l y l') (h0 : DeepA E W d t y0 v0 f) : f = [] := by
  cases x with
  | int k n => cases t with
    | int k' => cases d <;> exact h0.2
    | _ => exact ho.elim
  | bool b => cases t with
    | bool => cases d <;> exact h0.2
    | _ => exact ho.elim
  | str s => cases t with
    | str => cases d <;> exact h0.2
    | _ => exact ho.elim
  | _ => exact h.elim
theorem SimpR.of {K : Nat → Prop} {x : At E} {v : Value} (h : AtR G K W x v) (hs : simpAt x = true) : SimpR x v := by
  cases x <;> first | exact h | cases hs
theorem DeepL.upd {d : Nat} : ∀ {ts : List Ty} {h h' : HT E.S ts} {vs vs' : List Value} {fp : List Nat} {xs : List (At E)} {l l' : List Nat}, DeepL E (DeepA E W d) ts h vs fp → vs'.length = ts.length →
    (∀ c, c < ts.length → (xs[c]? = (toAts E ts h)[c]? ∧ vs'[c]? = vs[c]?) ∨ ∃ x w, xs[c]? = some x ∧ vs'[c]? = some w ∧ SimpR x w) → RM.Out S.h (ofAts E ts xs) l h' l' → DeepL E (DeepA E W d) ts h' vs' fp
  | [], _, _, _, vs', _, _, _, _, hd, hl, _, _ => ⟨List.eq_nil_of_length_eq_zero hl, hd.2⟩
  | t :: ts, h, h', vs, vs', fp, xs, _, _, ⟨v, r, f1, f2, hv, hf, ha, hr⟩, hl, hc, ho => by
    cases xs with
    | nil => exact ho.elim
    | cons x xs =>
      cases vs' with
      | nil => cases hl
      | cons v' vs' =>
        obtain ⟨y, l1, h1, ho⟩ := RM.Out_bind ho
        obtain ⟨z, l2, h2, ho⟩ := RM.Out_bind ho
        obtain rfl := ho.1
        subst hv hf
        have hr' := DeepL.upd (vs' := vs') hr (by simpa using hl) (fun c hc' => by simpa [toAts] using hc (c + 1) (by simpa using hc')) h2
        rcases hc 0 (by simp) with ⟨e1, e2⟩ | ⟨x', w, e1, e2, e3⟩
        · simp only [List.getElem?_cons_zero, toAts, Option.some.injEq] at e1 e2
          subst e1 e2
          exact ⟨v', vs', f1, f2, rfl, rfl, by rw [ofAt_toAt h1]; exact ha, hr'⟩
        · simp only [List.getElem?_cons_zero, Option.some.injEq] at e1 e2
          subst e1 e2
          obtain rfl := e3.none h1 ha
          exact ⟨v', vs', [], f2, rfl, rfl, e3.deep h1, hr'⟩
theorem DeepL.hole {d e : Nat} {t : Ty} {ys : List (Ty.D E.S t)} : ∀ {ts : List Ty} {h : HT E.S ts} {vs : List Value} {fp : List Nat} {c : Nat}, DeepL E (DeepA E W d) ts h vs fp → (toAts E ts h)[c]? = some (.ro e t ys) →
    ∃ v f2 fh, vs[c]? = some v ∧ DeepA E W d (.slice e t) ys v f2 ∧ DeepH E (DeepA E W d) ts h vs c fh ∧ fp.Perm (f2 ++ fh)
  | [], _, _, _, _, _, hc => by simp [toAts] at hc
  | t' :: ts, h, _, _, 0, ⟨v, r, f1, f2, hv, hf, ha, hr⟩, hc => by
    simp only [toAts, List.getElem?_cons_zero, Option.some.injEq] at hc
    cases t' with
    | slice e' t' => cases hc; exact ⟨v, f1, f2, by rw [hv]; rfl, ha, ⟨v, r, hv, ⟨_, _, rfl⟩, hr⟩, by rw [hf]⟩
    | rsl e' t' => cases d <;> exact ha.elim
    | _ => cases hc
  | t' :: ts, h, _, _, c + 1, ⟨v, r, f1, f2, hv, hf, ha, hr⟩, hc => by
    simp only [toAts, List.getElem?_cons_succ] at hc
    obtain ⟨w, g2, gh, h1, h2, h3, h4⟩ := DeepL.hole hr hc
    refine ⟨w, g2, f1 ++ gh, by rw [hv]; simpa using h1, h2, ⟨v, r, f1, gh, hv, rfl, ha, h3⟩, ?_⟩
    rw [hf]
    exact (h4.append_left f1).trans (List.perm_append_comm_assoc f1 g2 gh)
theorem DeepH.fill {d e : Nat} {t : Ty} {ys : List (Ty.D E.S t)} {v : Value} {f2 : List Nat} (hv : DeepA E W d (.slice e t) ys v f2) : ∀ {ts : List Ty} {h h' : HT E.S ts} {vs : List Value} {c : Nat} {fh : List Nat} {l l' : List Nat}, DeepH E (DeepA E W d) ts h vs c fh → vs[c]? = some v →
    RM.Out S.h (ofAts E ts ((toAts E ts h).set c (.ro e t ys))) l h' l' → ∃ fp, DeepL E (DeepA E W d) ts h' vs fp ∧ fp.Perm (f2 ++ fh)
  | [], _, _, _, _, _, _, _, hh, _, _ => hh.elim
  | t' :: ts, h, h', _, 0, fh, _, _, ⟨w, r, hw, ⟨e', t'', ht⟩, hr⟩, hc, ho => by
    subst hw ht
    simp only [List.getElem?_cons_zero, Option.some.injEq] at hc
    subst hc
    simp only [toAts, List.set_cons_zero] at ho
    obtain ⟨y, l1, h1, ho⟩ := RM.Out_bind ho
    obtain ⟨z, l2, h2, ho⟩ := RM.Out_bind ho
    obtain rfl := ho.1
    obtain ⟨rfl, rfl, rfl⟩ := castR_sound h1
    rw [ofAts_toAts h2]
    exact ⟨f2 ++ fh, ⟨w, r, f2, fh, rfl, rfl, hv, hr⟩, List.Perm.refl _⟩
  | t' :: ts, h, h', _, c + 1, _, _, _, ⟨w, r, f1, g, hw, hf, ha, hr⟩, hc, ho => by
    subst hw hf
    simp only [toAts, List.set_cons_succ] at ho
    obtain ⟨y, l1, h1, ho⟩ := RM.Out_bind ho
    obtain ⟨z, l2, h2, ho⟩ := RM.Out_bind ho
    obtain rfl := ho.1
    obtain ⟨fp, i1, i2⟩ := DeepH.fill hv hr (by simpa using hc) h2
    exact ⟨f1 ++ fp, ⟨w, r, f1, fp, rfl, rfl, by rw [ofAt_toAt h1]; exact ha, i1⟩, (i2.append_left f1).trans (List.perm_append_comm_assoc f1 f2 g)⟩
theorem DeepL.raise {d d' : Nat} (hd : d ≤ d') {ts : List Ty} {h : HT E.S ts} {vs : List Value} {fp : List Nat} (hW : ∀ k ∈ fp, W'.heap[k]? = W.heap[k]?) (H : DeepL E (DeepA E W d) ts h vs fp) : DeepL E (DeepA E W' d') ts h vs fp :=
  DeepL.same (fun t x v fp hk h => DeepA.same d d' hd t x v fp hk h) hW H
theorem DeepE.raise {d d' : Nat} (hd : d ≤ d') {t : Ty} {x : Ty.D E.S t} {vs : List Value} {fp : List Nat} (hW : ∀ k ∈ fp, W'.heap[k]? = W.heap[k]?) (H : DeepE E (DeepA E W d) t x vs fp) : DeepE E (DeepA E W' d') t x vs fp :=
  DeepE.same (fun t x v fp hk h => DeepA.same d d' hd t x v fp hk h) hW H
theorem DeepH.raise {d d' : Nat} (hd : d ≤ d') {ts : List Ty} {h : HT E.S ts} {vs : List Value} {c : Nat} {fp : List Nat} (hW : ∀ k ∈ fp, W'.heap[k]? = W.heap[k]?) (H : DeepH E (DeepA E W d) ts h vs c fp) : DeepH E (DeepA E W' d') ts h vs c fp :=
  DeepH.same (fun t x v fp hk h => DeepA.same d d' hd t x v fp hk h) hW H
/-! ### Values that own their rows, as deep data -/
theorem RoA.simpleDeep {F : Nat → Prop} {d : Nat} {t : Ty} {x : Ty.D E.S t} {v : Value} (hf : (match t with | .slice _ _ => false | .rsl _ _ => false | _ => true) = true) (h : RoA E W F d t x v) : DeepA E W d t x v [] := by
  cases t with
  | slice e t => cases hf
  | rsl e t => cases hf
  | int k => cases d <;> exact ⟨h, rfl⟩
  | bool => cases d <;> exact ⟨h, rfl⟩
  | str => cases d <;> exact ⟨h, rfl⟩
  | st n => cases d <;> exact h
  | arr k n => cases d <;> exact h
  | pbx b n => cases d <;> exact h
theorem RoL.simpleDeep {F : Nat → Prop} {d : Nat} : ∀ {ts : List Ty} {x : HT E.S ts} {vs : List Value}, (ts.all fun | .slice _ _ => false | .rsl _ _ => false | _ => true) = true → RoL E (RoA E W F d) ts x vs → DeepL E (DeepA E W d) ts x vs []
  | [], _, _, _, h => ⟨h, rfl⟩
  | t :: ts, _, _, hf, ⟨v, r, hv, ha, hr⟩ => by
    simp only [List.all_cons, Bool.and_eq_true] at hf
    exact ⟨v, r, [], [], hv, rfl, ha.simpleDeep (by cases t <;> first | rfl | (exact hf.1)), hr.simpleDeep hf.2⟩
theorem RoE.simpleDeep {F : Nat → Prop} {d : Nat} {t : Ty} {x : Ty.D E.S t} {vs : List Value} (hf : t.flat1 E = true) (h : RoE E (RoA E W F d) t x vs) : DeepE E (DeepA E W d) t x vs [] := by
  cases t with
  | st n => exact RoL.simpleDeep hf h
  | slice e t => cases hf
  | rsl e t => cases hf
  | int k => obtain ⟨v, hv, h⟩ := h; exact ⟨v, hv, h.simpleDeep rfl⟩
  | bool => obtain ⟨v, hv, h⟩ := h; exact ⟨v, hv, h.simpleDeep rfl⟩
  | str => obtain ⟨v, hv, h⟩ := h; exact ⟨v, hv, h.simpleDeep rfl⟩
  | arr k n => obtain ⟨v, hv, h⟩ := h; exact ⟨v, hv, h.simpleDeep rfl⟩
  | pbx b n => obtain ⟨v, hv, h⟩ := h; exact ⟨v, hv, h.simpleDeep rfl⟩
theorem flatten_nils (n : Nat) : (List.replicate n ([] : List Nat)).flatten = [] := by
  induction n with
  | zero => rfl
  | succ n ih => rw [List.replicate_succ, List.flatten_cons, ih]; rfl
theorem getD_nils (n i : Nat) : (List.replicate n ([] : List Nat)).getD i [] = [] := by
  rw [List.getD_eq_getElem?_getD, List.getElem?_replicate]
  split <;> rfl
theorem ShA.deep {F : Nat → Prop} {e : Nat} {t : Ty} {xs : List (Ty.D E.S t)} {v : Value} {fp : List Nat} (hf : t.flat1 E = true) (h : ShA E W F e t xs v fp) : ∃ d, DeepA E W d (.slice e t) xs v fp := by
  rcases h with ⟨A, h1, h2, h3⟩ | ⟨g, cap, cur, d, h1, h2, h3, h4, h5, h6, h7, h8⟩
  · exact ⟨1, .inl ⟨A, h1, h2, h3⟩⟩
  · exact ⟨d + 1, .inr ⟨g, cap, cur, List.replicate xs.length [], h1, by rw [flatten_nils, h2], h3, h4, h5, h6, h7, by simp, fun i hi => by rw [getD_nils]; exact (h8 i hi).simpleDeep hf⟩⟩
theorem OwnA.deep {F : Nat → Prop} {t : Ty} {x : Ty.D E.S t} {v : Value} {fp : List Nat} (hr : (match t with | .rsl _ _ => false | _ => true) = true) (h : OwnA E W F true t x v fp) : ∃ d, DeepA E W d t x v fp := by
  cases t with
  | int k => exact ⟨0, h⟩
  | bool => exact ⟨0, h⟩
  | str => exact ⟨0, h⟩
  | slice e t =>
    have h : RwA E W F (true && !t.flat1 E) e t x v fp := h
    cases hf : t.flat1 E with
    | true => rw [hf] at h; exact ShA.deep hf h
    | false => rw [hf] at h; exact h.2
  | rsl e t => cases hr
  | st n => exact h.elim
  | arr k n => exact h.elim
  | pbx b n => exact h.elim
theorem OwnL.deep {F : Nat → Prop} : ∀ {ts : List Ty} {h : HT E.S ts} {vs : List Value} {fp : List Nat}, (ts.all fun | .rsl _ _ => false | _ => true) = true → OwnL E W F true ts h vs fp → ∃ d, DeepL E (DeepA E W d) ts h vs fp
  | [], _, _, _, _, h => ⟨0, h⟩
  | t :: ts, _, _, _, hf, ⟨v, r, f1, f2, hv, hfp, ha, hr⟩ => by
    simp only [List.all_cons, Bool.and_eq_true] at hf
    obtain ⟨d1, h1⟩ := OwnA.deep (by cases t <;> first | rfl | (exact hf.1)) ha
    obtain ⟨d2, h2⟩ := OwnL.deep hf.2 hr
    exact ⟨max d1 d2, v, r, f1, f2, hv, hfp, DeepA.same d1 _ (Nat.le_max_left _ _) _ _ _ _ (fun _ _ => rfl) h1, h2.raise (Nat.le_max_right _ _) (fun _ _ => rfl)⟩
/-! ### Cells of a deep row -/
def DeepC (E : Env) (W : World) (d : Nat) (t : Ty) (xs : List (Ty.D E.S t)) (cs : List Value) (fps : List (List Nat)) : Prop :=
  cs.length = xs.length * tsz E t ∧ fps.length = xs.length ∧ ∀ (i : Nat) (hi : i < xs.length), DeepE E (DeepA E W d) t xs[i] (seg cs i (tsz E t)) (fps.getD i [])
theorem getD_mem {fps : List (List Nat)} {j k : Nat} (hk : k ∈ fps.getD j []) : k ∈ fps.flatten := by
  by_cases hj : j < fps.length
  · rw [List.getD_eq_getElem?_getD, List.getElem?_eq_getElem hj] at hk
    exact List.mem_flatten.2 ⟨_, List.getElem_mem hj, hk⟩
  · rw [List.getD_eq_getElem?_getD, List.getElem?_eq_none (by omega)] at hk
    cases hk
theorem DeepC.raise {d d' : Nat} (hd : d ≤ d') {t : Ty} {xs : List (Ty.D E.S t)} {cs : List Value} {fps : List (List Nat)} (hW : ∀ k ∈ fps.flatten, W'.heap[k]? = W.heap[k]?) (h : DeepC E W d t xs cs fps) : DeepC E W' d' t xs cs fps :=
  ⟨h.1, h.2.1, fun i hi => (h.2.2 i hi).raise hd (fun k hk => hW k (getD_mem hk))⟩
theorem DeepC.nil {d : Nat} {t : Ty} : DeepC E W d t ([] : List (Ty.D E.S t)) [] [] := ⟨by simp, rfl, fun i hi => absurd hi (by simp)⟩
theorem DeepC.append {d : Nat} {t : Ty} {xs ys : List (Ty.D E.S t)} {cs ds : List Value} {fps gps : List (List Nat)} (h : DeepC E W d t xs cs fps) (k : DeepC E W d t ys ds gps) : DeepC E W d t (xs ++ ys) (cs ++ ds) (fps ++ gps) := by
  refine ⟨by rw [List.length_append, List.length_append, h.1, k.1, Nat.add_mul], by rw [List.length_append, List.length_append, h.2.1, k.2.1], fun i hi => ?_⟩
  by_cases hx : i < xs.length
  · rw [List.getElem_append_left hx, seg_append_left]
    · have := h.2.2 i hx
      rwa [List.getD_eq_getElem?_getD, List.getElem?_append_left (by rw [h.2.1]; exact hx), ← List.getD_eq_getElem?_getD]
    · rw [h.1]
      have : (i + 1) * tsz E t ≤ xs.length * tsz E t := Nat.mul_le_mul_right _ hx
      rw [Nat.add_mul] at this
      omega
  · rw [List.getElem_append_right (by omega)]
    have hi' : i - xs.length < ys.length := by simp at hi; omega
    have := k.2.2 (i - xs.length) hi'
    have he : seg (cs ++ ds) i (tsz E t) = seg ds (i - xs.length) (tsz E t) := by
      apply List.ext_getElem?
      intro j
      rw [seg_get, seg_get]
      by_cases hj : j < tsz E t
      · rw [if_pos hj, if_pos hj, List.getElem?_append_right (by rw [h.1]; have := Nat.mul_le_mul_right (tsz E t) (show xs.length ≤ i by omega); omega)]
        congr 1
        rw [h.1, Nat.sub_mul]
        have := Nat.mul_le_mul_right (tsz E t) (show xs.length ≤ i by omega)
        omega
      · rw [if_neg hj, if_neg hj]
    rw [he]
    rwa [List.getD_eq_getElem?_getD, List.getElem?_append_right (by rw [h.2.1]; omega), ← List.getD_eq_getElem?_getD, h.2.1]
theorem DeepC.one {d n : Nat} {x : E.S n} {vs : List Value} {fp : List Nat} (h : DeepL E (DeepA E W d) (E.fl n) (E.opn n x) vs fp) (hl : vs.length = (E.fl n).length) : DeepC E W d (.st n) [x] vs [fp] := by
  refine ⟨by simp [tsz, hl], rfl, fun i hi => ?_⟩
  obtain rfl : i = 0 := by simp at hi; omega
  have : seg vs 0 (tsz E (.st n)) = vs := by unfold seg; simp [tsz, ← hl]
  rw [this]
  exact h
theorem DeepC.row {d : Nat} {t : Ty} {xs : List (Ty.D E.S t)} {cs tail : List Value} {fps : List (List Nat)} (h : DeepC E W d t xs cs fps) : DeepR E (DeepA E W d) t xs (cs ++ tail) fps := by
  refine ⟨h.2.1, fun i hi => ?_⟩
  rw [row_seg, seg_append_left]
  · exact h.2.2 i hi
  · rw [h.1]
    have : (i + 1) * tsz E t ≤ xs.length * tsz E t := Nat.mul_le_mul_right _ hi
    rw [Nat.add_mul] at this
    omega
theorem DeepR.cells {d cap : Nat} {t : Ty} {xs : List (Ty.D E.S t)} {cur : Array Value} {fps : List (List Nat)} (hcur : cap * tsz E t ≤ cur.size) (hlen : xs.length ≤ cap) (h : DeepR E (DeepA E W d) t xs cur.toList fps) : DeepC E W d t xs (cur.toList.take (xs.length * tsz E t)) fps := by
  have hm : xs.length * tsz E t ≤ cap * tsz E t := Nat.mul_le_mul_right _ hlen
  refine ⟨by simp; omega, h.1, fun i hi => ?_⟩
  have he : seg (cur.toList.take (xs.length * tsz E t)) i (tsz E t) = seg cur.toList i (tsz E t) := by
    apply List.ext_getElem?
    intro j
    rw [seg_get, seg_get]
    by_cases hj : j < tsz E t
    · rw [if_pos hj, if_pos hj, List.getElem?_take, if_pos]
      have : (i + 1) * tsz E t ≤ xs.length * tsz E t := Nat.mul_le_mul_right _ hi
      rw [Nat.add_mul] at this
      omega
    · rw [if_neg hj, if_neg hj]
  rw [he]
  exact h.2 i hi
theorem zcells_deep {d : Nat} {n : Nat} {z : Array Value} {x : E.S n} (h : DeepL E (DeepA E W d) (E.fl n) (E.opn n x) z.toList []) (hz : z.size = tsz E (.st n)) (h0 : 0 < tsz E (.st n)) (m : Nat) : DeepC E W d (.st n) (List.replicate m x) (zcells z m) (List.replicate m []) := by
  refine ⟨by simp [zcells, hz], by simp, fun i hi => ?_⟩
  have hi' : i < m := by simpa using hi
  have hs : seg (zcells z m) i (tsz E (.st n)) = z.toList := by
    apply List.ext_getElem?
    intro j
    rw [seg_get]
    by_cases hj : j < tsz E (.st n)
    · rw [if_pos hj]
      have hlt : i * tsz E (.st n) + j < m * tsz E (.st n) := by
        have : (i + 1) * tsz E (.st n) ≤ m * tsz E (.st n) := Nat.mul_le_mul_right _ hi'
        rw [Nat.add_mul] at this
        omega
      have hmod : (i * tsz E (.st n) + j) % tsz E (.st n) = j := by rw [Nat.mul_comm, Nat.mul_add_mod, Nat.mod_eq_of_lt hj]
      unfold zcells
      rw [hz]
      have hzj : j < z.size := by rw [hz]; exact hj
      simp [hlt, hmod, hzj]
    · rw [if_neg hj, List.getElem?_eq_none (by simp; omega)]
  rw [hs, List.getElem_replicate, getD_nils]
  exact h
/-! ### Footprints -/
theorem flatten_set : ∀ {l : List (List Nat)} {i : Nat} (hi : i < l.length) (a : List Nat), (l.set i a).flatten.Perm (a ++ (l.set i []).flatten)
  | b :: l, 0, _, a => by simp
  | b :: l, i + 1, hi, a => by
    simp only [List.set_cons_succ, List.flatten_cons]
    exact ((flatten_set (l := l) (i := i) (by simpa using hi) a).append_left b).trans (List.perm_append_comm_assoc b a _)
theorem flatten_get {l : List (List Nat)} {i : Nat} (hi : i < l.length) : l.flatten.Perm (l.getD i [] ++ (l.set i []).flatten) := by
  have := flatten_set hi l[i]
  rw [List.set_getElem_self] at this
  rwa [List.getD_eq_getElem?_getD, List.getElem?_eq_getElem hi]
/-! ### Blocks given up -/
theorem Sim.release (hS : Sim cx G S tm W) (m : List Nat) (hm : ∀ i ∈ m, ∃ b, S.h i = some b ∧ b.fz = false)
    (hW : ∀ k, k < W.heap.size → (∃ i ∈ m, ∃ b, S.h i = some b ∧ Occ G i b k) ∨ W'.heap[k]? = W.heap[k]?) (hsize : W.heap.size ≤ W'.heap.size) (hos : W'.os = W.os ∧ W'.tape = W.tape ∧ W'.output = W.output) :
    Sim cx G { S with H := gones m ++ S.H } tm W' ∧ Ext G S.k W G (St.k { S with H := gones (E := E) m ++ S.H }) W' ∧
      (∀ k, (W.heap.size ≤ k ∨ ∃ i ∈ m, ∃ b, S.h i = some b ∧ Occ G i b k) → Free cx G { S with H := gones m ++ S.H } k) := by
  have hnF : ∀ k, (∃ i ∈ m, ∃ b, S.h i = some b ∧ Occ G i b k) → ¬ G.F k := by
    rintro k ⟨i, hi, b, hb, ho⟩
    obtain ⟨b', hb', hz⟩ := hm i hi
    rw [hb] at hb'; cases hb'
    exact hS.sep i b k hb ho hz
  have hown : ∀ k, (∃ i ∈ m, ∃ b, S.h i = some b ∧ Occ G i b k) → cx.W0.heap.size ≤ k ∨ cx.M k := by
    rintro k ⟨i, hi, b, hb, ho⟩
    obtain ⟨b', hb', hz⟩ := hm i hi
    rw [hb] at hb'; cases hb'
    exact hS.own i b k hb ho hz
  have hWF : ∀ b, G.F b → W'.heap[b]? = W.heap[b]? := fun b hb => (hW b (hS.fr b hb)).resolve_left fun h => hnF b h hb
  have hh : ∀ i b, St.h { S with H := gones m ++ S.H } i = some b → i ∉ m ∧ S.h i = some b := by
    intro i b h
    have him : i ∉ m := fun hi => by
      have := h_gones (S := S) (U := []) hi
      simp only [List.append_nil] at this
      unfold gones at h
      rw [this] at h; cases h
    refine ⟨him, ?_⟩
    unfold St.h at h ⊢
    simp only [lk_append] at h
    have : lk (gones (E := E) m) i = none := by
      cases hl : lk (gones (E := E) m) i with
      | none => rfl
      | some c => exact absurd (lk_gones hl).2 him
    rw [this] at h
    exact h
  obtain ⟨h1, h2⟩ := hS.after (W' := W') (gones m) G.F (fun id b hl => .inl (lk_gones hl).1) ⟨hos.1.trans hS.frm.os, hos.2.1.trans hS.frm.tape, hos.2.2.trans hS.frm.output, Nat.le_trans hS.frm.size hsize, fun b hb hm' => by
      rcases hW b (Nat.lt_of_lt_of_le hb hS.frm.size) with h | h
      · rcases hown b h with h | h
        · omega
        · exact absurd h hm'
      · rw [h]; exact hS.frm.block b hb hm'⟩ (fun _ h => h) hWF (fun b hb => Nat.lt_of_lt_of_le (hS.fr b hb) hsize) (fun b hb => .inl hb)
    (fun id b b0 k hb h0 ho => by
      obtain ⟨him, hb'⟩ := hh id b hb
      rw [h0] at hb'; cases hb'
      refine ⟨(hW k (ho.lt (hS.blks id _ h0))).resolve_left ?_, hS.sepF id _ k h0 ho, hS.sep id _ k h0 ho⟩
      rintro ⟨i, hi, c, hc, ho'⟩
      exact him (hS.inj i id c _ k hc h0 ho' ho ▸ hi))
  refine ⟨h1, h2, fun k hk => ⟨?_, ?_, fun i b hb ho => ?_⟩⟩
  · rcases hk with hk | hk
    · intro h; have := hS.fr k h; omega
    · exact hnF k hk
  · rcases hk with hk | hk
    · exact .inl (Nat.le_trans hS.frm.size hk)
    · exact hown k hk
  · obtain ⟨him, hb'⟩ := hh i b hb
    rcases hk with hk | ⟨j, hj, c, hc, ho'⟩
    · have := ho.lt (hS.blks i b hb'); omega
    · exact him (hS.inj j i c b k hc hb' ho' ho ▸ hj)
theorem gones_none {m : List Nat} {i : Nat} (h : i ∉ m) : lk (gones (E := E) m) i = none := by
  cases hl : lk (gones (E := E) m) i with
  | none => rfl
  | some c => exact absurd (lk_gones hl).2 h
theorem gones_h {m : List Nat} {i : Nat} (h : i ∈ m) : St.h { S with H := gones m ++ S.H } i = none := by
  have := h_gones (S := S) (U := []) h
  simpa [gones] using this
theorem fresh_not {m : List Nat} (hm : ∀ i ∈ m, ∃ b, S.h i = some b ∧ b.fz = false) {fr : Nat} (hf : lk S.H fr = none) : fr ∉ m := by
  intro h
  obtain ⟨b, hb, _⟩ := hm fr h
  have := St.h_k hb
  unfold St.k at this
  rw [hf] at this; cases this
theorem fresh_gones {m : List Nat} (hm : ∀ i ∈ m, ∃ b, S.h i = some b ∧ b.fz = false) {fr : Nat} (hf : lk S.H fr = none) : lk (gones (E := E) m ++ S.H) fr = none := by
  rw [lk_append, gones_none (fresh_not hm hf)]; exact hf
/-- A deep row's slice, as deep data; its blocks. -/
theorem drow_deep (hS : Sim cx G S tm W) {id : Nat} {e : Nat} {t : Ty} {xs : List (Ty.D E.S t)} {hid : Nat} (hb : S.h id = some (.drow e t xs hid)) :
    (∃ A, G.hd id = .slice A 0 0 ∧ xs = []) ∨ ∃ cap cur d fps, G.hd id = .slice (some ⟨G.loc id, 0, none⟩) xs.length cap ∧ 0 < cap ∧ CellsAt W (G.loc id) cur e ∧ xs.length ≤ cap ∧ cap ≤ maxLen ∧ cap * tsz E t ≤ cur.size ∧
      (G.loc id :: fps.flatten).Nodup ∧ DeepR E (DeepA E W d) t xs cur.toList fps ∧ ∀ k ∈ G.loc id :: fps.flatten, Occ G id (.drow e t xs hid : Blk E) k := by
  obtain ⟨b0, b1, b2, b3, hrow⟩ := hS.blks id _ hb
  rcases hrow with ⟨A, hA, hnil, _⟩ | ⟨cap, cur, d, fps, hhd, hcap, hh, hlen, hmax, hcur, hfp, hnd, hr, _⟩
  · exact .inl ⟨A, hA, hnil⟩
  · refine .inr ⟨cap, cur, d, fps, hhd, hcap, hh, hlen, hmax, hcur, hnd, hr, fun k hk => ?_⟩
    rcases List.mem_cons.1 hk with rfl | hk
    · exact .inl ⟨rfl, by rw [hhd]; exact hcap⟩
    · exact .inr (by rw [hfp]; exact hk)
end Mir
