/- The mirror machine: code with loops. -/
import Derived.Test.YtfgcbamnclkiiaaMir24
namespace Mir
set_option linter.unusedVariables false
set_option linter.unusedSimpArgs false
open Go
variable {E : Env} {P : Program} {T : Tb} {Γ : Ctx E} {cx : Cx} {G G' : Gh} {S : St E} {tm : Array Value} {a : Act} {W W' : World}
variable {R : Type}
def Ex.to : Ex → Exit
  | .norm => .normal
  | .exit id => .exit id
  | .ret => .ret
/-- What goes on behind a piece of code ends as Q says. -/
def KOK (cx : Cx) (A : Array Value) (K : KT E R) (x : R) (Q : Exit → Act → World → Prop) : Prop := ∀ ex S a W, K ex S = some x → Inv cx A S.nx S a W → Q ex.to a W
def OrcOK (P : Program) (cx : Cx) (A : Array Value) (o : Orc E R) : Prop := ∀ c K S x a W Q, o c K S = some x → Inv cx A S.nx S a W → KOK cx A K x Q → c.wp P Q a W
theorem refine_sound {A : Array Value} {n : Nat} (hI : Inv cx A n S a W) {c : Operand} {b : Bool} (h : evO (lk S.ρ) c = some (.bool b)) : Inv cx A n (S.refine c b) a W := by
  cases c with
  | tmp t => exact hI.refine h rfl
  | _ => exact hI
theorem runA_sound (hT : T.OK P) (hΓ : GamOK P Γ) (hmix : P.follows .mixedOrders = true) {loops cuts : Live} {A : Array Value} {o : Orc E R} (ho : OrcOK P cx A o) : ∀ (c : Code) (S : St E) (K : KT E R) (x : R) (a : Act) (W : World) (Q : Exit → Act → World → Prop), runA T Γ loops cuts o c S K = some x → Inv cx A S.nx S a W → KOK cx A K x Q → c.wp P Q a W := by
  intro c
  induction c with
  | skip => intro S K x a W Q h hI hK; exact wp_skip (hK .norm S a W h hI)
  | region id ops draw => intro S K x a W Q h hI hK; exact runRegion_sound hT hΓ hmix h hI fun S' a' W' h' hI' => hK .norm S' a' W' h' hI'
  | seq c1 c2 ih1 ih2 =>
    intro S K x a W Q h hI hK
    refine wp_seq (ih1 S _ x a W _ h hI ?_)
    intro ex S' a' W' h' hI'
    cases ex with
    | norm =>
      simp only [kseq] at h'
      show c2.wp P Q a' W'
      split at h'
      · exact ho c2 K _ x a' W' Q h' (norm_sound hI' _) hK
      · exact ih2 S' K x a' W' Q h' hI' hK
    | exit id => exact hK (.exit id) S' a' W' h' hI'
    | ret => exact hK .ret S' a' W' h' hI'
  | cond c c1 c2 ih1 ih2 =>
    intro S K x a W Q h hI hK
    unfold runA at h
    split at h
    · rename_i b hb
      obtain ⟨G, hS⟩ := hI.sim
      have hv : a.eval c = .bool b := ev_sound hS hb
      cases b with
      | true => exact wp_cond_true hv (ih1 _ K x a W Q h (show Inv cx A (S.refine c true).nx _ a W from by
          have := refine_sound hI hb
          cases c <;> exact this) hK)
      | false => exact wp_cond_false hv (ih2 _ K x a W Q h (show Inv cx A (S.refine c false).nx _ a W from by
          have := refine_sound hI hb
          cases c <;> exact this) hK)
    · cases h
  | block id c ih =>
    intro S K x a W Q h hI hK
    refine wp_block (ih S _ x a W _ h hI ?_)
    intro ex S' a' W' h' hI'
    cases ex with
    | norm => exact hK .norm S' a' W' h' hI'
    | exit j =>
      simp only [kblock] at h'
      show Exit.inBlock id Q (.exit j) a' W'
      simp only [Exit.inBlock]
      cases hb : Nat.beq j id with
      | true => rw [hb, cond_true] at h'; rw [if_pos (Nat.eq_of_beq_eq_true hb)]; exact hK .norm S' a' W' h' hI'
      | false =>
        rw [hb, cond_false] at h'
        rw [if_neg (fun e => by subst e; rw [Nat.beq_refl j] at hb; cases hb)]
        exact hK (.exit j) S' a' W' h' hI'
    | ret => exact hK .ret S' a' W' h' hI'
  | loop c ih =>
    intro S K x a W Q h hI hK
    unfold runA at h
    split at h
    · exact ho _ K _ x a W Q h (norm_sound hI _) hK
    · cases h
  | exit id => intro S K x a W Q h hI hK; exact wp_exit (hK (.exit id) S a W h hI)
  | ret => intro S K x a W Q h hI hK; exact wp_ret (hK .ret S a W h hI)
  | _ => intro S K x a W Q h hI hK; cases h
theorem iter_sound {A : Array Value} {b : Code} {K : KT E R} {x : R} {Q : Exit → Act → World → Prop} (hK : KOK cx A K x Q) {step : (St E → Option R) → St E → Option R}
    (hstep : ∀ (rec : St E → Option R) (N : Act → World → Prop), (∀ S a W, rec S = some x → Inv cx A S.nx S a W → N a W) → ∀ S a W, step rec S = some x → Inv cx A S.nx S a W → b.wp P (Exit.then N Q) a W) :
    ∀ (n : Nat) (S : St E) (a : Act) (W : World), iter step n S = some x → Inv cx A S.nx S a W → Code.rounds P b Q n a W
  | 0, _, _, _, h, _ => by cases h
  | n + 1, S, a, W, h, hI => hstep (iter step n) (Code.rounds P b Q n) (fun S a W h hI => iter_sound hK hstep n S a W h hI) S a W h hI
theorem orc_sound (hT : T.OK P) (hΓ : GamOK P Γ) (hmix : P.follows .mixedOrders = true) {loops cuts : Live} {A : Array Value} (k : Nat) : ∀ d, OrcOK P cx A (orc (R := R) T Γ loops cuts k d) := by
  intro d
  induction d with
  | zero => intro c K S x a W Q h; cases h
  | succ d ih =>
    intro c K S x a W Q h hI hK
    have plain : runA T Γ loops cuts (orc T Γ loops cuts k d) c S K = some x → c.wp P Q a W := fun h => runA_sound hT hΓ hmix ih c S K x a W Q h hI hK
    cases c with
    | loop b =>
      unfold orc at h
      split at h
      · rename_i live _
        refine wp_loop_rounds k (iter_sound hK ?_ k S a W h hI)
        intro rec N hN S a W h hI
        refine runA_sound hT hΓ hmix ih b S _ x a W _ h hI ?_
        intro ex S' a' W' h' hI'
        cases ex with
        | norm => exact hN _ a' W' h' (norm_sound hI' _)
        | exit id => exact hK (.exit id) S' a' W' h' hI'
        | ret => exact hK .ret S' a' W' h' hI'
      · cases h
    | _ => exact plain h

/-! ### Entry -/
def entryB (E : Env) : (ps : List Par) → IT E ps → (slot id : Nat) → List (Nat × AV E) × Up E × Nat := entry E
theorem entry_le : ∀ (ps : List Par) (x : IT E ps) (s id : Nat), id ≤ (entry E ps x s id).2.2
  | [], _, _, _ => Nat.le_refl _
  | .val t :: ps, x, s, id => entry_le ps x.2 (s + 1) id
  | .clo f caps :: ps, x, s, id => entry_le ps x.2 (s + 1) id
  | .mut t :: ps, x, s, id => Nat.le_trans (newCv_le t x.1 id) (entry_le ps x.2 (s + 1) _)
  | .box n :: ps, x, s, id => Nat.le_trans (Nat.le_trans (Nat.le_succ _) (newAts_le _ _ (id + 1))) (entry_le ps x.2 (s + 1) _)
theorem entry_key : ∀ (ps : List Par) (x : IT E ps) (s id k : Nat), (k < id ∨ (entry E ps x s id).2.2 ≤ k) → lk (entry E ps x s id).2.1 k = none
  | [], _, _, _, _, _ => rfl
  | .val t :: ps, x, s, id, k, h => entry_key ps x.2 (s + 1) id k h
  | .clo f caps :: ps, x, s, id, k, h => entry_key ps x.2 (s + 1) id k h
  | .mut t :: ps, x, s, id, k, h => by
    have h1 := newCv_le t x.1 id
    have h2 := entry_le ps x.2 (s + 1) (newCv E t x.1 id).2.2
    simp only [entry] at h ⊢
    rw [lk_append, newCv_key t x.1 id k (by omega)]
    exact entry_key ps x.2 (s + 1) _ k (by omega)
  | .box n :: ps, x, s, id, k, h => by
    have h1 := newAts_le (E.fl n) (E.opn n x.1) (id + 1)
    have h2 := entry_le ps x.2 (s + 1) (newAts E (E.fl n) (E.opn n x.1) (id + 1)).2.2
    simp only [entry] at h ⊢
    simp only [List.cons_append, lk_cons]
    rw [if_neg (by omega), lk_append, newAts_key _ _ _ k (by omega)]
    exact entry_key ps x.2 (s + 1) _ k (by omega)
theorem entry_sound : ∀ {ps : List Par} {x : IT E ps} {ws : List Value} {fp : List Nat} {s id : Nat} {S : St E}, (hS : Sim cx G S tm W) → InPs E W G.F ps x ws fp → fp.Nodup → (∀ b ∈ fp, Free cx G S b) → (∀ k, id ≤ k → k < (entry E ps x s id).2.2 → lk S.H k = none) →
    ∃ G', Sim cx G' { S with H := (entry E ps x s id).2.1 ++ S.H } tm W ∧ Ext G S.k W G' (St.k { S with H := (entry E ps x s id).2.1 ++ S.H }) W ∧ G'.F = G.F ∧ (∀ k, k ∉ fp → Free cx G S k → Free cx G' { S with H := (entry E ps x s id).2.1 ++ S.H } k) ∧
      ∀ t v, lk (entry E ps x s id).1 t = some v → s ≤ t ∧ ∃ w, ws[t - s]? = some w ∧ AVR G' (St.k { S with H := (entry E ps x s id).2.1 ++ S.H }) W v w
  | [], _, _, _, _, _, S, hS, _, _, _, _ => ⟨G, hS, Ext.refl _ _ _, rfl, fun _ _ h => h, fun _ _ h => by cases h⟩
  | .val t :: ps, x, ws, fp, s, id, S, hS, ⟨w, r, f1, f2, hw, hf, h1, hr⟩, hnd, hfree, hnew => by
    obtain ⟨hrv, rfl⟩ := h1
    subst hw hf
    obtain ⟨G', i1, i2, i3, i4, i5⟩ := entry_sound (s := s + 1) (id := id) hS hr hnd hfree hnew
    refine ⟨G', i1, i2, i3, i4, fun t' v h => ?_⟩
    simp only [entry, lk_cons] at h
    split at h
    · rename_i e; subst e; cases h
      exact ⟨Nat.le_refl _, w, by simp, roCv_sound (by rw [i3]; exact fun _ h => h) hrv⟩
    · obtain ⟨h1, w', h2, h3⟩ := i5 t' v h
      exact ⟨by omega, w', by rw [show t' - s = t' - (s + 1) + 1 by omega]; simpa using h2, h3⟩
  | .clo f caps :: ps, x, ws, fp, s, id, S, hS, ⟨w, r, f1, f2, hw, hf, h1, hr⟩, hnd, hfree, hnew => by
    obtain ⟨⟨us, hrv, hus⟩, rfl⟩ := h1
    subst hw hf
    obtain ⟨G', i1, i2, i3, i4, i5⟩ := entry_sound (s := s + 1) (id := id) hS hr hnd hfree hnew
    refine ⟨G', i1, i2, i3, i4, fun t' v h => ?_⟩
    simp only [entry, lk_cons] at h
    split at h
    · rename_i e; subst e; cases h
      exact ⟨Nat.le_refl _, w, by simp, us, hrv, roCvs_sound (by rw [i3]; exact fun _ h => h) hus⟩
    · obtain ⟨h1, w', h2, h3⟩ := i5 t' v h
      exact ⟨by omega, w', by rw [show t' - s = t' - (s + 1) + 1 by omega]; simpa using h2, h3⟩
  | .mut t :: ps, x, ws, fp, s, id, S, hS, ⟨w, r, f1, f2, hw, hf, h1, hr⟩, hnd, hfree, hnew => by
    subst hw hf
    obtain ⟨hn1, hn2, hdis⟩ := List.nodup_append.1 hnd
    have le1 := newCv_le t x.1 id
    have le2 := entry_le ps x.2 (s + 1) (newCv E t x.1 id).2.2
    simp only [entry] at hnew ⊢
    obtain ⟨G1, i1, i2, i3, i4, i5⟩ := entry_sound (s := s + 1) (id := (newCv E t x.1 id).2.2) hS hr hn2 (fun b hb => hfree b (by simp [hb])) (fun k h1 h2 => hnew k (by omega) h2)
    obtain ⟨G2, j1, j2, j3, j4, j5⟩ := newCv_sound (fr := id) i1 (by rw [i3]; exact h1) hn1 (fun b hb => i4 b (fun h2 => hdis b hb b h2 rfl) (hfree b (by simp [hb]))) (fun k h1 h2 => by
      show lk (_ ++ S.H) k = none
      rw [lk_append, entry_key ps x.2 (s + 1) _ k (by omega)]; exact hnew k h1 (by omega))
    rw [app3]
    refine ⟨G2, j1, i2.trans j2, j3.trans i3, fun k hk hf => j5 k (fun h => hk (by simp [h])) (i4 k (fun h => hk (by simp [h])) hf), fun t' v h => ?_⟩
    simp only [lk_cons] at h
    split at h
    · rename_i e; subst e; cases h
      exact ⟨Nat.le_refl _, w, by simp, j4⟩
    · obtain ⟨h1, w', h2, h3⟩ := i5 t' v h
      exact ⟨by omega, w', by rw [show t' - s = t' - (s + 1) + 1 by omega]; simpa using h2, h3.ext j2⟩
  | .box n :: ps, x, ws, fp, s, id, S, hS, ⟨w, r, f1, f2, hw, hf, h1, hr⟩, hnd, hfree, hnew => by
    subst hw hf
    obtain ⟨g, us, f, rfl, hg1, hg2, rfl⟩ := h1
    obtain ⟨hn1, hn2, hdis⟩ := List.nodup_append.1 hnd
    obtain ⟨hn3, hn4⟩ := List.nodup_cons.1 hn1
    have le1 := newAts_le (E.fl n) (E.opn n x.1) (id + 1)
    have le2 := entry_le ps x.2 (s + 1) (newAts E (E.fl n) (E.opn n x.1) (id + 1)).2.2
    simp only [entry] at hnew ⊢
    obtain ⟨G1, i1, i2, i3, i4, i5⟩ := entry_sound (s := s + 1) (id := (newAts E (E.fl n) (E.opn n x.1) (id + 1)).2.2) hS hr hn2 (fun b hb => hfree b (by simp [hb])) (fun k h1 h2 => hnew k (by omega) h2)
    obtain ⟨G2, j1, j2, j3, j4, j5⟩ := newAts_sound (fr := id + 1) (vs := us) (h := E.opn n x.1) i1 (by rw [i3]; exact hg2) hn4 (fun b hb => i4 b (fun h2 => hdis b (by simp [hb]) b h2 rfl) (hfree b (by simp [hb]))) (fun k h1 h2 => by
      show lk (_ ++ S.H) k = none
      rw [lk_append, entry_key ps x.2 (s + 1) _ k (by omega)]; exact hnew k (by omega) (by omega))
    have hnone : lk ((newAts E (E.fl n) (E.opn n x.1) (id + 1)).2.1 ++ ((entry E ps x.2 (s + 1) (newAts E (E.fl n) (E.opn n x.1) (id + 1)).2.2).2.1 ++ S.H)) id = none := by
      rw [lk_append, newAts_key _ _ _ _ (by omega)]
      dsimp only
      rw [lk_append, entry_key ps x.2 (s + 1) _ id (by omega)]
      exact hnew id (Nat.le_refl _) (by omega)
    have hfg := j5 g hn3 (i4 g (fun h2 => hdis g (by simp) g h2 rfl) (hfree g (by simp)))
    have hE : Ext G2 _ W (G2.add id g undef 0 0) (St.k { S with H := (id, (.box n (newAts E (E.fl n) (E.opn n x.1) (id + 1)).1 : Blk E)) :: ((newAts E (E.fl n) (E.opn n x.1) (id + 1)).2.1 ++ ((entry E ps x.2 (s + 1) (newAts E (E.fl n) (E.opn n x.1) (id + 1)).2.2).2.1 ++ S.H)) }) W :=
      Gh.add_ext (not_k (S := { S with H := (newAts E (E.fl n) (E.opn n x.1) (id + 1)).2.1 ++ ((entry E ps x.2 (s + 1) (newAts E (E.fl n) (E.opn n x.1) (id + 1)).2.2).2.1 ++ S.H) }) hnone) (fun i hi => k_cons hi) fun _ _ => rfl
    have hoc : ∀ k, Occ (E := E) (G2.add id g undef 0 0) id (.box n (newAts E (E.fl n) (E.opn n x.1) (id + 1)).1) k → k = g := fun k h => (show k = (G2.add id g undef 0 0).loc id from h).trans (updf_same _ _ _)
    have k1 := j1.adopt (id := id) (b := .box n (newAts E (E.fl n) (E.opn n x.1) (id + 1)).1) (by unfold St.h; rw [hnone]) hE rfl ⟨us, by rw [show (G2.add id g undef 0 0).loc id = g from updf_same _ _ _]; exact hg1, AtsR.ext hE j4⟩ rfl (fun k hk => by rw [hoc k hk]; exact hfg)
    have hH : ∀ (p : Nat × Blk E) (A B C : Up E), p :: (A ++ B) ++ C = p :: (A ++ (B ++ C)) := by intros; simp
    rw [show ∀ (p : Nat × Blk E) (A B : Up E), p :: A ++ B = p :: (A ++ B) from fun _ _ _ => rfl, hH]
    refine ⟨_, k1, (i2.trans j2).trans hE, j3.trans i3, fun k hk hf => ?_, fun t' v h => ?_⟩
    · have h1 := i4 k (fun h => hk (by simp [h])) hf
      have h2 := j5 k (fun h => hk (by simp [h])) h1
      exact h2.cons hE rfl (fun h => hk (by simp [hoc k h]))
    · simp only [lk_cons] at h
      split at h
      · rename_i e; subst e; cases h
        exact ⟨Nat.le_refl _, .pointer (some ⟨g, 0, none⟩), by simp, (by unfold St.k; simp [lk_cons]), by rw [show (G2.add id g undef 0 0).loc id = g from updf_same _ _ _]⟩
      · obtain ⟨h1, w', h2, h3⟩ := i5 t' v h
        exact ⟨by omega, w', by rw [show t' - s = t' - (s + 1) + 1 by omega]; simpa using h2, (h3.ext j2).ext hE⟩
end Mir
