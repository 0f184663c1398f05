/- The mirror machine: data out of values; new blocks. -/
import Derived.Test.YtbepkbaemapkjaaMir6
namespace Mir
set_option linter.unusedVariables false
set_option linter.unusedSimpArgs false
open Go
variable {E : Env} {P : Program} {T : Tb} {cx : Cx} {G G' : Gh} {S : St E} {tm : Array Value} {a : Act} {W W' : World}

/-- The rows that a cell leads to lie in F. -/
def InF (G : Gh) (S : St E) (F : Nat → Prop) : At E → Prop
  | .own id => ∀ b k, S.h id = some b → Occ G id b k → F k
  | .sub id _ _ => ∀ b k, S.h id = some b → Occ G id b k → F k
  | .inn id _ _ _ => ∀ b k, S.h id = some b → Occ G id b k → F k
  | _ => True
/-- The cell of a struct's datum that is a slice. -/
theorem DeepL.cell {d : Nat} {e : Nat} {t : Ty} {ys : List (Ty.D E.S t)} : ∀ {ts : List Ty} {h : HT E.S ts} {vs : List Value} {fp : List Nat} {c : Nat}, DeepL E (DeepA E W d) ts h vs fp → (toAts E ts h)[c]? = some (.ro e t ys) →
    ∃ v f, vs[c]? = some v ∧ DeepA E W d (.slice e t) ys v f ∧ ∀ k ∈ f, k ∈ fp
  | [], _, _, _, _, _, hc => by simp [toAts] at hc
  | t' :: ts, h, _, _, 0, ⟨v, r, f1, f2, hv, hf, ha, hr⟩, hc => by
    simp only [toAts, List.getElem?_cons_zero, Option.some.injEq] at hc
    cases t' with
    | slice e' t' => cases hc; exact ⟨v, f1, by rw [hv]; rfl, ha, fun k hk => by rw [hf]; simp [hk]⟩
    | rsl e' t' => cases d <;> exact ha.elim
    | _ => cases hc
  | t' :: ts, h, _, _, c + 1, ⟨v, r, f1, f2, hv, hf, ha, hr⟩, hc => by
    simp only [toAts, List.getElem?_cons_succ] at hc
    obtain ⟨w, f, h1, h2, h3⟩ := DeepL.cell hr hc
    exact ⟨w, f, by rw [hv]; simpa using h1, h2, fun k hk => by rw [hf]; simp [h3 k hk]⟩
theorem castR_sound {e e' : Nat} {t t' : Ty} {xs : List (Ty.D E.S t')} {l l' : List Nat} {ys : List (Ty.D E.S t)} (h : RM.Out S.h (castR E e t e' t' xs) l ys l') : e = e' ∧ ∃ ht : t' = t, ys = ht ▸ xs := by
  unfold castR at h
  have hb' := RM.Out_bif h; clear h; obtain ⟨he, h⟩ := hb'
  split at h
  · rename_i ht _
    exact ⟨Nat.eq_of_beq_eq_true he, ht, h.1⟩
  · exact h.elim
theorem ofAt_sound (hS : Sim cx G S tm W) {F : Nat → Prop} (hF : ∀ b, G.F b → F b) {t : Ty} {x : At E} {v : Value} (hx : AtR G S.k W x v) (hi : InF G S F x) {l l' : List Nat} {d : Ty.D E.S t} (h : RM.Out S.h (ofAt E t x) l d l') : ∃ n, RoA E W F n t d v := by
  unfold ofAt at h
  split at h
  · rename_i k k' n
    have hb' := RM.Out_bif h; clear h; obtain ⟨hk, h⟩ := hb'
    obtain rfl := ikEq_eq hk
    obtain rfl := h.1
    exact ⟨0, hx⟩
  · obtain rfl := h.1; exact ⟨0, hx⟩
  · obtain rfl := h.1; exact ⟨0, hx⟩
  · rename_i e t e' t' xs
    obtain ⟨rfl, rfl, rfl⟩ := castR_sound h
    obtain ⟨n, hn⟩ := hx
    exact ⟨n, RoA_rsl.2 (RoA.more hF (fun _ _ => rfl) n n (Nat.le_refl _) _ _ _ hn)⟩
  · obtain rfl := h.1
    obtain ⟨A, hv⟩ := hx
    exact ⟨1, A, 0, hv, Nat.le_refl _, fun h => absurd h (by simp)⟩
  · rename_i e t e' t' xs
    obtain ⟨rfl, rfl, rfl⟩ := castR_sound h
    obtain ⟨n, hn⟩ := hx
    exact ⟨n, RoA.more hF (fun _ _ => rfl) n n (Nat.le_refl _) _ _ _ hn⟩
  · rename_i e t id
    obtain ⟨b, hb, h⟩ := h
    have hB := hS.blks id b hb
    dsimp only at h
    split at h
    · rename_i e' t' xs f
      obtain ⟨rfl, rfl, rfl⟩ := castR_sound h
      obtain ⟨b1, b2, b3, hrow⟩ := hB
      rw [hx.2.1]
      rcases hrow with ⟨A, hA, hnil⟩ | ⟨cap, cur, d, hhd, hcap, hh, hlen, hmax, hcur, hel⟩
      · subst hnil
        exact ⟨1, A, 0, hA, Nat.le_refl _, fun h => absurd h (by simp)⟩
      · refine ⟨d + 1, _, cap, hhd, hlen, fun h0 => ⟨_, rfl, hi _ _ hb ⟨rfl, by rw [hhd]; exact hcap⟩, fun i hi => ⟨_, (hel i hi).mono fun t x v => RoA.more hF (fun _ _ => rfl) d d (Nat.le_refl _) t x v, fun j hj => ?_⟩⟩⟩
        rw [hh.cell _ _ rfl]
        have hj' : j < tsz E t' ∧ i * tsz E t' + j < cur.size := by
          simp only [List.length_drop, List.length_take, Array.length_toList] at hj
          constructor
          · omega
          · have : (i + 1) * tsz E t' ≤ cap * tsz E t' := Nat.mul_le_mul_right _ (by omega)
            rw [Nat.add_mul] at this
            omega
        rw [Nat.zero_add, Array.getElem?_eq_getElem (by omega)]
        simp
    · rename_i e' t' xs hid
      obtain ⟨rfl, rfl, rfl⟩ := castR_sound h
      obtain ⟨b0, b1, b2, b3, hrow⟩ := hB
      rw [hx.2.1]
      rcases hrow with ⟨A, hA, hnil, _⟩ | ⟨cap, cur, d, fps, hhd, hcap, hh, hlen, hmax, hcur, hfp, _, hr, _⟩
      · subst hnil
        exact ⟨1, A, 0, hA, Nat.le_refl _, fun h => absurd h (by simp)⟩
      · have hall : ∀ k ∈ fps.flatten, F k := fun k hk => hi _ _ hb (.inr (by rw [hfp]; exact hk))
        exact ⟨d + 1, _, cap, hhd, hlen, fun h0 => ⟨_, rfl, hi _ _ hb (.inl ⟨rfl, by rw [hhd]; exact hcap⟩), fun i hi' => ⟨_, (hr.2 i hi').ro (fun t x v fp hF h => DeepA.ro hF h) (hr.at hi' hall), fun j hj => cell_seg hh hi' hlen hcur j hj⟩⟩⟩
    · exact h.elim
  · rename_i e t id hid i c
    obtain ⟨b, hb, h⟩ := h
    have hB := hS.blks id b hb
    dsimp only at h
    split at h
    · rename_i e0 t' xs hid'
      have hb' := RM.Out_bif h; clear h; obtain ⟨hh', h⟩ := hb'
      obtain rfl := Nat.eq_of_beq_eq_true hh'
      obtain ⟨b0, b1, b2, b3, hrow⟩ := hB
      obtain ⟨_, _, hv, A0, n0, m0, hsl⟩ := hx
      unfold innR at h
      split at h
      · rename_i n xs
        obtain ⟨hil, h⟩ := h
        simp only [decide_eq_true_eq] at hil
        split at h
        · rename_i e' t' ys hcell
          obtain ⟨rfl, rfl, rfl⟩ := castR_sound h
          rcases hrow with ⟨A, hA, hnil, _⟩ | ⟨cap, cur, d, fps, hhd, hcap, hh, hlen, hmax, hcur, hfp, _, hr, hin⟩
          · subst hnil; simp at hil
          · have hg : xs.getD i (E.dz n) = xs[i] := by rw [List.getD_eq_getElem?_getD, List.getElem?_eq_getElem hil]; rfl
            rw [hg] at hcell
            obtain ⟨w, f, h1, h2, h3⟩ := DeepL.cell (hr.2 i hil) hcell
            have hall : ∀ k ∈ fps.flatten, F k := fun k hk => hi _ _ hb (.inr (by rw [hfp]; exact hk))
            have hat := hr.at hil hall
            have hci : c < tsz E (.st n) := by
              have := (List.getElem?_eq_some_iff.1 h1).1
              simp only [List.length_take] at this
              omega
            have hw : cur[i * tsz E (.st n) + c]? = some w := by
              rw [List.getElem?_take, if_pos hci, List.getElem?_drop] at h1
              simpa using h1
            have hsl' : ∃ A n m, w = .slice A n m := by
              cases d with
              | zero => exact h2.elim
              | succ d =>
                rcases h2 with ⟨A, hw, _⟩ | ⟨g, cap, cur, fps, hw, _⟩
                · exact ⟨_, _, _, hw⟩
                · exact ⟨_, _, _, hw⟩
            obtain ⟨A1, n1, m1, hw1⟩ := hsl'
            have := hin i c hil hci ⟨A1, n1, m1, by rw [hw, hw1]⟩
            rw [hw] at this
            have hvw : w = v := by rw [hv]; simpa using this
            subst hvw
            exact ⟨d, DeepA.ro (fun k hk => hat k (h3 k hk)) h2⟩
        · exact h.elim
      · exact h.elim
    · exact h.elim
  · rename_i e t id off len
    obtain ⟨b, hb, h⟩ := h
    have hB := hS.blks id b hb
    dsimp only at h
    split at h
    · rename_i e' t' xs f
      obtain ⟨hlen', h⟩ := h
      simp only [decide_eq_true_eq] at hlen'
      obtain ⟨rfl, rfl, rfl⟩ := castR_sound h
      obtain ⟨b1, b2, b3, hrow⟩ := hB
      obtain ⟨hk, hol, A, c, hv, hlc, hA⟩ := hx
      have hl : ((xs.drop off).take len).length = len := by simp; omega
      rcases hrow with ⟨A', hA', hnil⟩ | ⟨cap, cur, d, hhd, hcap, hh, hlen, hmax, hcur, hel⟩
      · subst hnil
        have h0 : len = 0 := by simp at hlen'; omega
        subst h0
        exact ⟨1, A, c, by rw [hv]; rfl, Nat.zero_le _, fun h => absurd h (by simp)⟩
      · refine ⟨d + 1, A, c, by rw [hv]; simp [hl], by simp [hl]; omega, fun h0 => ?_⟩
        have h0' : 0 < len := by
          have : 0 < ((xs.drop off).take len).length := h0
          omega
        refine ⟨_, (hA (by omega)).1, hi _ _ hb ⟨rfl, by rw [hhd]; exact hcap⟩, fun i hi => ?_⟩
        have hi' : i < len := by
          have : i < ((xs.drop off).take len).length := hi
          omega
        have hoi : off + i < xs.length := by omega
        refine ⟨(cur.toList.drop ((off + i) * tsz E t')).take (tsz E t'), ?_, fun j hj => ?_⟩
        · have := (hel (off + i) hoi).mono fun t x v => RoA.more hF (fun _ _ => rfl) d d (Nat.le_refl _) t x v
          simpa using this
        · rw [b2, hh.cell _ _ rfl]
          have hj' : j < tsz E t' ∧ (off + i) * tsz E t' + j < cur.size := by
            simp only [List.length_drop, List.length_take, Array.length_toList] at hj
            constructor
            · omega
            · have : (off + i + 1) * tsz E t' ≤ cap * tsz E t' := Nat.mul_le_mul_right _ (by omega)
              rw [Nat.add_mul] at this
              omega
          rw [← Nat.add_assoc, ← Nat.add_mul, Array.getElem?_eq_getElem (by omega)]
          simp
    · exact h.elim
  · obtain rfl := h.1
    obtain ⟨A, hv⟩ := hx
    exact ⟨1, A, 0, hv, Nat.le_refl _, fun h => absurd h (by simp)⟩
  · exact h.elim
theorem ofAts_sound (hS : Sim cx G S tm W) {F : Nat → Prop} (hF : ∀ b, G.F b → F b) : ∀ {ts : List Ty} {xs : List (At E)} {vs : List Value}, AtsR G S.k W xs vs → (∀ x ∈ xs, InF G S F x) → ∀ {l l' : List Nat} {d : HT E.S ts}, RM.Out S.h (ofAts E ts xs) l d l' → ∃ n, RoL E (RoA E W F n) ts d vs
  | [], [], _, hx, _, _, _, _, h => ⟨0, hx⟩
  | t :: ts, x :: xs, _, ⟨v, r, hv, ha, hr⟩, hi, l, l', d, h => by
    obtain ⟨y, l1, h1, h⟩ := RM.Out_bind h
    obtain ⟨z, l2, h2, h⟩ := RM.Out_bind h
    obtain rfl := h.1
    obtain ⟨n, hn⟩ := ofAt_sound hS hF ha (hi x (by simp)) h1
    obtain ⟨m, hm⟩ := ofAts_sound hS hF hr (fun x hx => hi x (by simp [hx])) h2
    exact ⟨max n m, v, r, hv, RoA.more (fun _ h => h) (fun _ _ => rfl) n _ (Nat.le_max_left _ _) _ _ _ hn, hm.mono fun t x v => RoA.more (fun _ h => h) (fun _ _ => rfl) m _ (Nat.le_max_right _ _) t x v⟩
  | [], _ :: _, _, _, _, _, _, _, h => h.elim
  | _ :: _, [], _, _, _, _, _, _, h => h.elim
theorem AtR.cells {K : Nat → Prop} {x : At E} {w : Value} (h : AtR G K W x w) (hok : okAt x = true) : w.cells = #[w] := by
  cases x <;> simp [okAt] at hok
  · rw [show w = _ from h]; rfl
  · rw [show w = _ from h]; rfl
  · rw [show w = _ from h]; rfl
  · obtain ⟨d, h⟩ := h
    cases d with
    | zero => exact h.elim
    | succ d => obtain ⟨A, c, hv, _⟩ := h; rw [hv]; rfl
  · obtain ⟨_, _, A, n, c, hv⟩ := h; rw [hv]; rfl
  · obtain ⟨_, _, A, c, hv, _⟩ := h; rw [hv]; rfl
  · rw [h.2]; rfl
  · rw [h.2.2]; rfl
  · obtain ⟨A, hv⟩ := h; rw [hv]; rfl
  · rw [show w = _ from h]; rfl
  · obtain ⟨_, _, _, A, n, m, hv⟩ := h; rw [hv]; rfl
  · rw [h.2]; rfl
theorem ints_ats (K : Nat → Prop) (k : IntKind) : ∀ xs : List Int, AtsR (E := E) G K W (xs.map (.int k)) (xs.map (Value.int k))
  | [] => rfl
  | x :: xs => ⟨_, _, rfl, rfl, ints_ats K k xs⟩
/-- The cells of a component's value. -/
theorem CvR.cells {K : Nat → Prop} {v : Cv E} {w : Value} (h : CvR G K W v w) (hok : v.cells.all okAt = true) : AtsR G K W v.cells w.cells.toList := by
  cases v with
  | agg xs => obtain ⟨vs, rfl, hr⟩ := h; simpa [Value.cells, Cv.cells] using hr
  | arr k n xs =>
    obtain ⟨_, rfl⟩ := h
    simpa [Value.cells, Cv.cells] using ints_ats K k xs
  | «at» x =>
    rw [AtR.cells h (by simpa [Cv.cells] using hok)]
    exact ⟨w, [], rfl, h, rfl⟩
end Mir
