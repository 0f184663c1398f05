/- The mirror machine: code with loops. -/
import Derived.Test.YtbepkbaemapkjaaMir24
namespace Mir
set_option linter.unusedVariables false
set_option linter.unusedSimpArgs false
open Go
variable {E : Env} {P : Program} {T : Tb} {Γ : Ctx E} {cx : Cx} {G G' : Gh} {S : St E} {tm : Array Value} {a : Act} {W W' : World}
variable {R : Type}
def Ex.to : Ex → Exit
  | .norm => .normal
  | .exit id => .exit id
  | .ret => .ret
/-- What goes on behind a piece of code ends as Q says. -/
def KOK (cx : Cx) (A : Array Value) (K : KT E R) (x : R) (Q : Exit → Act → World → Prop) : Prop := ∀ ex S a W, K ex S = some x → Inv cx A S.nx S a W → Q ex.to a W
def OrcOK (P : Program) (cx : Cx) (A : Array Value) (o : Orc E R) : Prop := ∀ c K S x a W Q, o c K S = some x → Inv cx A S.nx S a W → KOK cx A K x Q → c.wp P Q a W
theorem refine_sound {A : Array Value} {n : Nat} (hI : Inv cx A n S a W) {c : Operand} {b : Bool} (h : evO (lk S.ρ) c = some (.bool b)) : Inv cx A n (S.refine c b) a W := by
  cases c with
  | tmp t => exact hI.refine h rfl
  | _ => exact hI
theorem amb_some {p q : Bool} {u v : Option R} {x : R} (h : amb p q u v = some x) : (p = true → u = some x) ∧ (q = true → v = some x) ∧ (p = true ∨ q = true) := by
  unfold amb at h
  cases p <;> cases q <;> simp only [cond_true, cond_false] at h
  · cases h
  · exact ⟨fun h => (by cases h), fun _ => h, .inr rfl⟩
  · exact ⟨fun _ => h, fun h => (by cases h), .inl rfl⟩
  · split at h
    · rename_i he; exact ⟨fun _ => h, fun _ => by rw [← he]; exact h, .inl rfl⟩
    · cases h
theorem refine_unk {A : Array Value} {n : Nat} (hI : Inv cx A n S a W) {c : Operand} {b : Bool} (hb : a.eval c = .bool b) : Inv cx A n (S.refine c b) a W := by
  cases c with
  | tmp t =>
    obtain ⟨G, hS⟩ := hI.sim
    refine ⟨⟨G, ⟨hS.sz, fun s v h => ?_, hS.blks, hS.inj, hS.sepF, hS.sep, hS.own, hS.fr, hS.frm, hS.ff⟩⟩, hI.nx, hI.defers, hI.pin⟩
    have h : lk ((t, AV.bool b) :: S.ρ) s = some v := h
    rw [lk_cons] at h
    split at h
    · cases h; subst_vars; exact hb
    · exact hS.tmps s v h
  | _ => exact hI
theorem runA_sound (hT : T.OK P) (hΓ : GamOK P Γ) (hmix : P.follows .mixedOrders = true) {loops cuts : Live} {A : Array Value} {o : Orc E R} (ho : OrcOK P cx A o) : ∀ (c : Code) (S : St E) (K : KT E R) (x : R) (a : Act) (W : World) (Q : Exit → Act → World → Prop), runA T Γ loops cuts o c S K = some x → Inv cx A S.nx S a W → KOK cx A K x Q → c.wp P Q a W := by
  intro c
  induction c with
  | skip => intro S K x a W Q h hI hK; exact wp_skip (hK .norm S a W h hI)
  | region id ops draw => intro S K x a W Q h hI hK; exact runRegion_sound hT hΓ hmix h hI fun S' a' W' h' hI' => hK .norm S' a' W' h' hI'
  | seq c1 c2 ih1 ih2 =>
    intro S K x a W Q h hI hK
    refine wp_seq (ih1 S _ x a W _ h hI ?_)
    intro ex S' a' W' h' hI'
    cases ex with
    | norm =>
      simp only [kseq] at h'
      show c2.wp P Q a' W'
      split at h'
      · exact ho c2 K _ x a' W' Q h' (norm_sound hI' _) hK
      · exact ih2 S' K x a' W' Q h' hI' hK
    | exit id => exact hK (.exit id) S' a' W' h' hI'
    | ret => exact hK .ret S' a' W' h' hI'
  | cond c c1 c2 ih1 ih2 =>
    intro S K x a W Q h hI hK
    unfold runA at h
    split at h
    · rename_i b hb
      obtain ⟨G, hS⟩ := hI.sim
      have hv : a.eval c = .bool b := ev_sound hS hb
      cases b with
      | true => exact wp_cond_true hv (ih1 _ K x a W Q h (show Inv cx A (S.refine c true).nx _ a W from by
          have := refine_sound hI hb
          cases c <;> exact this) hK)
      | false => exact wp_cond_false hv (ih2 _ K x a W Q h (show Inv cx A (S.refine c false).nx _ a W from by
          have := refine_sound hI hb
          cases c <;> exact this) hK)
    · rename_i p q hb
      obtain ⟨G, hS⟩ := hI.sim
      obtain ⟨b, hv, hp, hq⟩ := ev_sound hS hb
      obtain ⟨h1, h2, _⟩ := amb_some h
      cases b with
      | true => exact wp_cond_true hv (ih1 _ K x a W Q (h1 (hp rfl)) (show Inv cx A (S.refine c true).nx _ a W from by
          have := refine_unk hI hv
          cases c <;> exact this) hK)
      | false => exact wp_cond_false hv (ih2 _ K x a W Q (h2 (hq rfl)) (show Inv cx A (S.refine c false).nx _ a W from by
          have := refine_unk hI hv
          cases c <;> exact this) hK)
    · cases h
  | block id c ih =>
    intro S K x a W Q h hI hK
    refine wp_block (ih S _ x a W _ h hI ?_)
    intro ex S' a' W' h' hI'
    cases ex with
    | norm => exact hK .norm S' a' W' h' hI'
    | exit j =>
      simp only [kblock] at h'
      show Exit.inBlock id Q (.exit j) a' W'
      simp only [Exit.inBlock]
      cases hb : Nat.beq j id with
      | true => rw [hb, cond_true] at h'; rw [if_pos (Nat.eq_of_beq_eq_true hb)]; exact hK .norm S' a' W' h' hI'
      | false =>
        rw [hb, cond_false] at h'
        rw [if_neg (fun e => by subst e; rw [Nat.beq_refl j] at hb; cases hb)]
        exact hK (.exit j) S' a' W' h' hI'
    | ret => exact hK .ret S' a' W' h' hI'
  | loop c ih =>
    intro S K x a W Q h hI hK
    unfold runA at h
    split at h
    · exact ho _ K _ x a W Q h (norm_sound hI _) hK
    · cases h
  | exit id => intro S K x a W Q h hI hK; exact wp_exit (hK (.exit id) S a W h hI)
  | ret => intro S K x a W Q h hI hK; exact wp_ret (hK .ret S a W h hI)
  | _ => intro S K x a W Q h hI hK; cases h
theorem iter_sound {A : Array Value} {b : Code} {K : KT E R} {x : R} {Q : Exit → Act → World → Prop} (hK : KOK cx A K x Q) {step : (St E → Option R) → St E → Option R}
    (hstep : ∀ (rec : St E → Option R) (N : Act → World → Prop), (∀ S a W, rec S = some x → Inv cx A S.nx S a W → N a W) → ∀ S a W, step rec S = some x → Inv cx A S.nx S a W → b.wp P (Exit.then N Q) a W) :
    ∀ (n : Nat) (S : St E) (a : Act) (W : World), iter step n S = some x → Inv cx A S.nx S a W → Code.rounds P b Q n a W
  | 0, _, _, _, h, _ => by cases h
  | n + 1, S, a, W, h, hI => hstep (iter step n) (Code.rounds P b Q n) (fun S a W h hI => iter_sound hK hstep n S a W h hI) S a W h hI
theorem orc_sound (hT : T.OK P) (hΓ : GamOK P Γ) (hmix : P.follows .mixedOrders = true) {loops cuts : Live} {A : Array Value} (k : Nat) : ∀ d, OrcOK P cx A (orc (R := R) T Γ loops cuts k d) := by
  intro d
  induction d with
  | zero => intro c K S x a W Q h; cases h
  | succ d ih =>
    intro c K S x a W Q h hI hK
    have plain : runA T Γ loops cuts (orc T Γ loops cuts k d) c S K = some x → c.wp P Q a W := fun h => runA_sound hT hΓ hmix ih c S K x a W Q h hI hK
    cases c with
    | loop b =>
      unfold orc at h
      split at h
      · rename_i live _
        refine wp_loop_rounds k (iter_sound hK ?_ k S a W h hI)
        intro rec N hN S a W h hI
        refine runA_sound hT hΓ hmix ih b S _ x a W _ h hI ?_
        intro ex S' a' W' h' hI'
        cases ex with
        | norm => exact hN _ a' W' h' (norm_sound hI' _)
        | exit id => exact hK (.exit id) S' a' W' h' hI'
        | ret => exact hK .ret S' a' W' h' hI'
      · cases h
    | _ => exact plain h

/-! ### Entry -/
/-- A box that is only read comes to the state. -/
theorem Sim.adoptRbx (hS : Sim cx G S tm W) {id : Nat} (hf : lk S.H id = none) {g : Nat} {cells : List (At E)} {vs : List Value} (hc : AtsR G S.k W cells vs) (hF : 0 < vs.length → G.F g) (hh : ∀ (j : Nat) (hj : j < vs.length), W.cell? ⟨g, j, none⟩ = some vs[j]) :
    ∃ G', Sim cx G' { S with H := (id, .rbx cells) :: S.H } tm W ∧ Ext G S.k W G' (St.k { S with H := (id, (.rbx cells : Blk E)) :: S.H }) W ∧ G'.F = G.F ∧ AtR (E := E) G' (St.k { S with H := (id, .rbx cells) :: S.H }) W (.ptr id 0) (.pointer (some ⟨g, 0, none⟩)) ∧ ∀ k, Free cx G S k → Free cx G' { S with H := (id, .rbx cells) :: S.H } k := by
  have hn : S.h id = none := by unfold St.h; rw [hf]
  have hE : Ext G S.k W (G.add id g undef 0 0) (St.k { S with H := (id, (.rbx cells : Blk E)) :: S.H }) W := Gh.add_ext (not_k hf) (fun i hi => k_cons hi) fun _ _ => rfl
  have hl : (G.add id g undef 0 0).loc id = g := updf_same _ _ _
  exact ⟨_, hS.adopt hn hE rfl ⟨vs, AtsR.ext hE hc, by rw [hl]; exact hF, by rw [hl]; exact hh⟩ rfl (fun k hk => hk.elim), hE, rfl, ⟨k_cons_self, by rw [hl]⟩, fun k hk => hk.cons hS hE rfl fun h => h.elim⟩
theorem entryCap_le (c : Cap) (x : c.I E) (id : Nat) : id < (entryCap E c x id).2 := by cases c <;> simp [entryCap]
theorem entryCap_key (c : Cap) (x : c.I E) (id k : Nat) (h : k < id ∨ (entryCap E c x id).2 ≤ k) : lk (entryCap E c x id).1 k = none := by
  cases c with
  | rb t => simp only [entryCap, lk_cons] at h ⊢; rw [if_neg (by omega)]; rfl
  | rpp t => simp only [entryCap, lk_cons] at h ⊢; rw [if_neg (by omega), if_neg (by omega)]; rfl
theorem RoP.adopt (hS : Sim cx G S tm W) {t : Ty} {x : Ty.D E.S t} {v : Value} {id : Nat} (h : RoP E W G.F t x v) (hf : lk S.H id = none) :
    ∃ G', Sim cx G' { S with H := (id, .rbx (toCv E t x).cells) :: S.H } tm W ∧ Ext G S.k W G' (St.k { S with H := (id, (.rbx (toCv E t x).cells : Blk E)) :: S.H }) W ∧ G'.F = G.F ∧ AtR (E := E) G' (St.k { S with H := (id, .rbx (toCv E t x).cells) :: S.H }) W (.ptr id 0) v ∧ ∀ k, Free cx G S k → Free cx G' { S with H := (id, .rbx (toCv E t x).cells) :: S.H } k := by
  obtain ⟨g, vs, d, rfl, h1, h2, h3⟩ := h
  exact hS.adoptRbx hf (toCv_cells (fun _ h => h) h1) h2 h3
theorem entryCap_sound (hS : Sim cx G S tm W) {c : Cap} {x : c.I E} {v : Value} {id : Nat} (h : CapP E W G.F c x v) (hnew : ∀ k, id ≤ k → k < (entryCap E c x id).2 → lk S.H k = none) :
    ∃ G', Sim cx G' { S with H := (entryCap E c x id).1 ++ S.H } tm W ∧ Ext G S.k W G' (St.k { S with H := (entryCap E c x id).1 ++ S.H }) W ∧ G'.F = G.F ∧ AtR (E := E) G' (St.k { S with H := (entryCap E c x id).1 ++ S.H }) W (.ptr id 0) v ∧ ∀ k, Free cx G S k → Free cx G' { S with H := (entryCap E c x id).1 ++ S.H } k := by
  cases c with
  | rb t => exact RoP.adopt hS h (hnew id (Nat.le_refl _) (entryCap_le _ _ _))
  | rpp t =>
    obtain ⟨g, w, rfl, hg, hw, hr⟩ := h
    obtain ⟨G1, i1, i2, i3, i4, i5⟩ := RoP.adopt hS hr (hnew (id + 1) (Nat.le_succ _) (by simp [entryCap]))
    obtain ⟨G2, j1, j2, j3, j4, j5⟩ := i1.adoptRbx (id := id) (g := g) (cells := [.ptr (id + 1) 0]) (vs := [w]) (by
        show lk ((id + 1, _) :: S.H) id = none
        rw [lk_cons, if_neg (by omega)]; exact hnew id (Nat.le_refl _) (entryCap_le _ _ _)) ⟨w, [], rfl, i4, rfl⟩ (fun _ => by rw [i3]; exact hg) (fun j hj => by
        have : j = 0 := by simp at hj; omega
        subst this; exact hw)
    exact ⟨G2, j1, i2.trans j2, j3.trans i3, j4, fun k hk => j5 k (i5 k hk)⟩
theorem entryCaps_le : ∀ (cs : List Cap) (x : CT E cs) (id : Nat), id ≤ (entryCaps E cs x id).2.2
  | [], _, _ => Nat.le_refl _
  | c :: cs, x, id => Nat.le_trans (Nat.le_of_lt (entryCap_le c x.1 id)) (entryCaps_le cs x.2 _)
theorem entryCaps_key : ∀ (cs : List Cap) (x : CT E cs) (id k : Nat), (k < id ∨ (entryCaps E cs x id).2.2 ≤ k) → lk (entryCaps E cs x id).2.1 k = none
  | [], _, _, _, _ => rfl
  | c :: cs, x, id, k, h => by
    have h1 := entryCap_le c x.1 id
    have h2 := entryCaps_le cs x.2 (entryCap E c x.1 id).2
    simp only [entryCaps] at h ⊢
    rw [lk_append, entryCap_key c x.1 id k (by omega)]
    exact entryCaps_key cs x.2 _ k (by omega)
theorem entryCaps_sound : ∀ {cs : List Cap} {x : CT E cs} {vs : List Value} {id : Nat} {S : St E} (hS : Sim cx G S tm W), CapPs E W G.F cs x vs → (∀ k, id ≤ k → k < (entryCaps E cs x id).2.2 → lk S.H k = none) →
    ∃ G', Sim cx G' { S with H := (entryCaps E cs x id).2.1 ++ S.H } tm W ∧ Ext G S.k W G' (St.k { S with H := (entryCaps E cs x id).2.1 ++ S.H }) W ∧ G'.F = G.F ∧ CvsR G' (St.k { S with H := (entryCaps E cs x id).2.1 ++ S.H }) W (entryCaps E cs x id).1 vs ∧ ∀ k, Free cx G S k → Free cx G' { S with H := (entryCaps E cs x id).2.1 ++ S.H } k
  | [], _, vs, _, S, hS, h, _ => ⟨G, hS, Ext.refl _ _ _, rfl, h, fun _ h => h⟩
  | c :: cs, x, vs, id, S, hS, ⟨v, r, hv, hc, hr⟩, hnew => by
    have le1 := entryCap_le c x.1 id
    have le2 := entryCaps_le cs x.2 (entryCap E c x.1 id).2
    simp only [entryCaps] at hnew ⊢
    obtain ⟨G1, i1, i2, i3, i4, i5⟩ := entryCaps_sound (id := (entryCap E c x.1 id).2) hS hr (fun k h1 h2 => hnew k (by omega) h2)
    obtain ⟨G2, j1, j2, j3, j4, j5⟩ := entryCap_sound (id := id) i1 (c := c) (x := x.1) (v := v) (by rw [i3]; exact hc) (fun k h1 h2 => by
      show lk (_ ++ S.H) k = none
      rw [lk_append, entryCaps_key cs x.2 _ k (by omega)]; exact hnew k h1 (by omega))
    rw [app3]
    exact ⟨G2, j1, i2.trans j2, j3.trans i3, ⟨v, r, hv, j4, CvsR.ext j2 i4⟩, fun k hk => j5 k (i5 k hk)⟩
theorem entryP_le (p : Par) (x : p.I E) (id : Nat) : id ≤ (entryP E p x id).2.2 := by
  cases p with
  | val t => exact Nat.le_refl _
  | «mut» dp t => exact newCv_le dp t x id
  | mov dp t => exact newCv_le dp t x id
  | box dp b n => exact Nat.le_trans (Nat.le_succ _) (newAts_le dp _ _ (id + 1))
  | movb dp b n => exact Nat.le_trans (Nat.le_succ _) (newAts_le dp _ _ (id + 1))
  | clo f caps => exact entryCaps_le caps x id
  | cap c => exact Nat.le_of_lt (entryCap_le c x id)
theorem entryP_key (p : Par) (x : p.I E) (id k : Nat) (h : k < id ∨ (entryP E p x id).2.2 ≤ k) : lk (entryP E p x id).2.1 k = none := by
  cases p with
  | val t => rfl
  | «mut» dp t => exact newCv_key dp t x id k h
  | mov dp t => exact newCv_key dp t x id k h
  | box dp b n => exact boxEnt_key dp b n x id k h
  | movb dp b n => exact boxEnt_key dp b n x id k h
  | clo f caps => exact entryCaps_key caps x id k h
  | cap c => exact entryCap_key c x id k h
theorem entryP_sound (hS : Sim cx G S tm W) {p : Par} {x : p.I E} {v : Value} {fp : List Nat} {id : Nat} (h : InP E W G.F p x v fp) (hnd : fp.Nodup) (hfree : ∀ b ∈ fp, Free cx G S b) (hnew : ∀ k, id ≤ k → k < (entryP E p x id).2.2 → lk S.H k = none) :
    ∃ G', Sim cx G' { S with H := (entryP E p x id).2.1 ++ S.H } tm W ∧ Ext G S.k W G' (St.k { S with H := (entryP E p x id).2.1 ++ S.H }) W ∧ G'.F = G.F ∧ AVR G' (St.k { S with H := (entryP E p x id).2.1 ++ S.H }) W (entryP E p x id).1 v ∧ ∀ k, k ∉ fp → Free cx G S k → Free cx G' { S with H := (entryP E p x id).2.1 ++ S.H } k := by
  cases p with
  | val t => exact ⟨G, hS, Ext.refl _ _ _, rfl, roCv_sound (fun _ h => h) h.1, fun _ _ h => h⟩
  | «mut» dp t => exact newCv_sound hS h hnd hfree hnew
  | mov dp t => exact newCv_sound hS h hnd hfree hnew
  | box dp b n => exact boxEnt_sound hS h hnd hfree hnew
  | movb dp b n => exact boxEnt_sound hS h hnd hfree hnew
  | clo f caps =>
    obtain ⟨⟨ws, rfl, hc⟩, rfl⟩ := h
    obtain ⟨G1, i1, i2, i3, i4, i5⟩ := entryCaps_sound hS hc hnew
    exact ⟨G1, i1, i2, i3, ⟨ws, rfl, i4⟩, fun k _ hk => i5 k hk⟩
  | cap c =>
    obtain ⟨hc, rfl⟩ := h
    obtain ⟨G1, i1, i2, i3, i4, i5⟩ := entryCap_sound hS hc hnew
    exact ⟨G1, i1, i2, i3, i4, fun k _ hk => i5 k hk⟩
theorem entry_le : ∀ (ps : List Par) (x : IT E ps) (s id : Nat), id ≤ (entry E ps x s id).2.2
  | [], _, _, _ => Nat.le_refl _
  | p :: ps, x, s, id => Nat.le_trans (entryP_le p x.1 id) (entry_le ps x.2 (s + 1) _)
theorem entry_key : ∀ (ps : List Par) (x : IT E ps) (s id k : Nat), (k < id ∨ (entry E ps x s id).2.2 ≤ k) → lk (entry E ps x s id).2.1 k = none
  | [], _, _, _, _, _ => rfl
  | p :: ps, x, s, id, k, h => by
    have h1 := entryP_le p x.1 id
    have h2 := entry_le ps x.2 (s + 1) (entryP E p x.1 id).2.2
    simp only [entry] at h ⊢
    rw [lk_append, entryP_key p x.1 id k (by omega)]
    exact entry_key ps x.2 (s + 1) _ k (by omega)
theorem entry_sound : ∀ {ps : List Par} {x : IT E ps} {ws : List Value} {fp : List Nat} {s id : Nat} {S : St E}, (hS : Sim cx G S tm W) → InPs E W G.F ps x ws fp → fp.Nodup → (∀ b ∈ fp, Free cx G S b) → (∀ k, id ≤ k → k < (entry E ps x s id).2.2 → lk S.H k = none) →
    ∃ G', Sim cx G' { S with H := (entry E ps x s id).2.1 ++ S.H } tm W ∧ Ext G S.k W G' (St.k { S with H := (entry E ps x s id).2.1 ++ S.H }) W ∧ G'.F = G.F ∧ (∀ k, k ∉ fp → Free cx G S k → Free cx G' { S with H := (entry E ps x s id).2.1 ++ S.H } k) ∧
      ∀ t v, lk (entry E ps x s id).1 t = some v → s ≤ t ∧ ∃ w, ws[t - s]? = some w ∧ AVR G' (St.k { S with H := (entry E ps x s id).2.1 ++ S.H }) W v w
  | [], _, _, _, _, _, S, hS, _, _, _, _ => ⟨G, hS, Ext.refl _ _ _, rfl, fun _ _ h => h, fun _ _ h => by cases h⟩
  | p :: ps, x, ws, fp, s, id, S, hS, ⟨w, r, f1, f2, hw, hf, h1, hr⟩, hnd, hfree, hnew => by
    subst hw hf
    obtain ⟨hn1, hn2, hdis⟩ := List.nodup_append.1 hnd
    have le1 := entryP_le p x.1 id
    have le2 := entry_le ps x.2 (s + 1) (entryP E p x.1 id).2.2
    simp only [entry] at hnew ⊢
    obtain ⟨G1, i1, i2, i3, i4, i5⟩ := entry_sound (s := s + 1) (id := (entryP E p x.1 id).2.2) hS hr hn2 (fun b hb => hfree b (by simp [hb])) (fun k h1 h2 => hnew k (by omega) h2)
    obtain ⟨G2, j1, j2, j3, j4, j5⟩ := entryP_sound (id := id) i1 (p := p) (x := x.1) (v := w) (by rw [i3]; exact h1) hn1 (fun b hb => i4 b (fun h2 => hdis b hb b h2 rfl) (hfree b (by simp [hb]))) (fun k h1 h2 => by
      show lk (_ ++ S.H) k = none
      rw [lk_append, entry_key ps x.2 (s + 1) _ k (by omega)]; exact hnew k h1 (by omega))
    rw [app3]
    refine ⟨G2, j1, i2.trans j2, j3.trans i3, fun k hk hf => j5 k (fun h => hk (by simp [h])) (i4 k (fun h => hk (by simp [h])) hf), fun t' v h => ?_⟩
    simp only [lk_cons] at h
    split at h
    · rename_i e; subst e; cases h
      exact ⟨Nat.le_refl _, w, by simp, j4⟩
    · obtain ⟨h1, w', h2, h3⟩ := i5 t' v h
      exact ⟨by omega, w', by rw [show t' - s = t' - (s + 1) + 1 by omega]; simpa using h2, h3.ext j2⟩
end Mir
