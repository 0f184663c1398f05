/- The mirror machine: one operation in a region; regions in text order. -/
import Derived.Test.YtbepkbaemapkjaaMir37
namespace Mir
set_option linter.unusedVariables false
set_option linter.unusedSimpArgs false
open Go
variable {E : Env} {P : Program} {T : Tb} {Γ : Ctx E} {cx : Cx} {G G' : Gh} {S : St E} {tm : Array Value} {a : Act} {W W' : World}

def GamOK (P : Program) (Γ : Ctx E) : Prop := ∀ f cl s, Γ f cl = some s → Sound P E f s
theorem avs_sound {A : Act} {G : Gh} {K : Nat → Prop} {W : World} {ρ : Nat → Option (AV E)} (hev : ∀ x v, evO ρ x = some v → AVR G K W v (A.eval x)) : ∀ {xs : List Operand} {vs : List (AV E)}, avs (xs.map (evO ρ)) = some vs → AVsR G K W vs (xs.map A.eval)
  | [], _, h => by cases h; rfl
  | x :: xs, vs, h => by
    simp only [List.map_cons] at h
    cases hx : evO ρ x with
    | none => rw [hx] at h; cases h
    | some v =>
      rw [hx] at h
      obtain ⟨r, h1, h2⟩ := Option.map_eq_some_iff.1 h
      subst h2
      exact ⟨_, _, rfl, hev x v hx, avs_sound hev h1⟩
theorem AVsR.app {G : Gh} {K : Nat → Prop} {W : World} : ∀ {xs : List (AV E)} {ys : List (Cv E)} {vs ws : List Value}, AVsR G K W xs vs → CvsR G K W ys ws → AVsR G K W (xs ++ ys.map .c) (vs ++ ws)
  | [], [], _, _, h, k => by rw [AVsR] at h; rw [CvsR] at k; subst h k; rfl
  | [], y :: ys, vs, _, h, ⟨w, r, hw, ha, hr⟩ => by
    rw [AVsR] at h; subst h hw
    exact ⟨w, r, rfl, ha, AVsR.app (xs := []) (vs := []) rfl hr⟩
  | x :: xs, ys, _, _, ⟨v, r, hv, ha, hr⟩, k => by subst hv; exact ⟨v, _, rfl, ha, hr.app k⟩
/-- One operation. -/
theorem aopC_sound (hT : T.OK P) (hΓ : GamOK P Γ) (hS : Sim cx G S a.tmps W) {fr : Nat} (hnew : ∀ k, fr ≤ k → k < fr + STR → lk S.H k = none) {o : Oper} {l l' : List Nat} {r : Res E} (h : RM.Out S.h (aopC T Γ fr (lk S.ρ) o.op) l r l')
    {K : Act → World → Prop} {Q : Exit → Act → World → Prop} (hK : ∀ v W' G', Sim cx G' { S with H := r.2 ++ S.H } a.tmps W' → AVR G' (St.k { S with H := r.2 ++ S.H }) W' r.1 v → K (a.put o.dst v) W') : o.wp P a W K Q := by
  have plain : RM.Out S.h (dop T fr (lk S.ρ) o.op) l r l' → o.wp P a W K Q := by
    intro h
    obtain ⟨v, W', G', h1, h2, h3, h4⟩ := dop_sound hT hS (hnew fr (Nat.le_refl _) (by simp [STR])) (hnew (fr + 1) (by omega) (by simp [STR])) h
    unfold Oper.wp
    rcases h1 with h1 | ⟨h1, rfl⟩
    · rw [h1]; exact hK v W' G' h2 h4
    · rw [h1]; exact hK _ W' G' h2 h4
  unfold aopC at h
  split at h
  · rename_i c hop
    split at h
    · rename_i f hcal
      split at h
      · rename_i g caps vs hf hvs
        split at h
        · rename_i s hs
          obtain ⟨ws, hw, hcaps⟩ := ev_sound hS hf
          have hargs := avs_sound (A := a) (G := G) (K := S.k) (W := W) (fun x v hx => ev_sound hS hx) hvs
          have hc := acallD_sound hS (hΓ _ _ _ hs) (hargs.app hcaps) h hnew
          unfold Oper.wp
          have hrun : (execOp a.eval o).run P W = .ok (.enter g (c.args.toList.map a.eval ++ ws).toArray) W := by
            have := (hΓ _ _ _ hs).1 (c.args.map a.eval ++ ws.toArray) W
            have e : (c.args.toList.map a.eval ++ ws).toArray = c.args.map a.eval ++ ws.toArray := by
              simp
            rw [e]
            simp only [execOp, hop, resolve, hcal, hw, Deferred.ofValue]
            simpa [invoke] using this
          rw [hrun]
          refine hc.mono ?_
          rintro e W' ⟨v, G', rfl, h1, _, h2⟩
          exact hK v W' G' h1 h2
        · exact h.elim
      · exact h.elim
    · rw [hop] at plain; exact plain h
  · exact plain h
theorem Sim.setρ (hS : Sim cx G S tm W) {d : Nat} {x : AV E} {v : Value} (hd : d < S.n) (hv : AVR G S.k W x v) : Sim cx G { S with ρ := (d, x) :: S.ρ } (tm.setIfInBounds d v) W := by
  refine ⟨by simpa using hS.sz, fun s y h => ?_, hS.blks, hS.inj, hS.sepF, hS.sep, hS.own, hS.fr, hS.frm, hS.ff⟩
  simp only [lk_cons] at h
  have hsz : d < tm.size := by rw [hS.sz]; exact hd
  by_cases he : d = s
  · subst he
    rw [if_pos rfl] at h
    cases h
    have e : (tm.setIfInBounds d v).getD d undef = v := by simp [Array.getD, hsz]
    rw [e]
    exact hv
  · rw [if_neg he] at h
    have := hS.tmps s y h
    rw [Array.getD_eq_getD_getElem?] at this ⊢
    rw [Array.getElem?_setIfInBounds_ne he]
    exact this
structure Inv (cx : Cx) (A : Array Value) (nx : Nat) (S : St E) (a : Act) (W : World) : Prop where
  sim : ∃ G, Sim cx G S a.tmps W
  nx : ∀ k, (lk S.H k).isSome = true → k < nx
  defers : a.defers = []
  pin : ∀ s ∈ S.pin, a.tmps.getD s undef = A.getD s undef
theorem Inv.fresh {A : Array Value} {nx fr : Nat} (h : Inv cx A nx S a W) (hf : nx ≤ fr) : ∀ k, fr ≤ k → k < fr + STR → lk S.H k = none := by
  intro k h1 _
  cases hl : lk S.H k with
  | none => rfl
  | some b => have := h.nx k (by rw [hl]; rfl); omega
theorem any_beq {l : List Nat} {d : Nat} (h : l.any (Nat.beq d) = false) : ∀ s ∈ l, s ≠ d := by
  intro s hs e
  subst e
  have : l.any (Nat.beq s) = true := List.any_eq_true.2 ⟨s, hs, Nat.beq_refl s⟩
  rw [h] at this; cases this
theorem pin_put {A : Array Value} {a : Act} {d : Nat} {v : Value} {l : List Nat} (h : ∀ s ∈ l, a.tmps.getD s undef = A.getD s undef) (hd : ∀ s ∈ l, s ≠ d) : ∀ s ∈ l, (a.tmps.setIfInBounds d v).getD s undef = A.getD s undef := by
  intro s hs
  rw [← h s hs, Array.getD_eq_getD_getElem?, Array.getD_eq_getD_getElem?, Array.getElem?_setIfInBounds_ne (Ne.symm (hd s hs))]
/-- A slot that is written. -/
theorem putK_sound {R : Type} {A : Array Value} {nx : Nat} {o : Option Nat} {x : AV E} {v : Value} {K : St E → Option R} {r : R} (hS : Sim cx G S a.tmps W) (hnx : ∀ k, (lk S.H k).isSome = true → k < nx) (hdf : a.defers = []) (hpin : ∀ s ∈ S.pin, a.tmps.getD s undef = A.getD s undef)
    (hv : AVR G S.k W x v) (h : putK S o x K = some r) : ∃ S', K S' = some r ∧ Inv cx A nx S' (a.put o v) W := by
  unfold putK at h
  cases o with
  | none => exact ⟨S, h, ⟨G, hS⟩, hnx, hdf, hpin⟩
  | some d =>
    dsimp only at h
    cases hc : (Nat.blt d S.n && !S.pin.any (Nat.beq d)) with
    | false => rw [hc] at h; cases h
    | true =>
      rw [hc] at h
      simp only [Bool.and_eq_true, Bool.not_eq_true'] at hc
      have hd : d < S.n := Nat.le_of_ble_eq_true hc.1
      exact ⟨_, h, ⟨G, hS.setρ hd hv⟩, hnx, hdf, pin_put hpin (any_beq hc.2)⟩
theorem yielded_of {all : Array Oper} {tm : Array Value} {j d : Nat} (hj : (all[j]?).bind (·.dst) = some d) : yielded all tm j = match tm.getD d undef with | .bool b => some b | _ => none := by
  unfold yielded
  rw [hj]
  simp only [Option.bind_some]
  rw [Array.getD_eq_getD_getElem?]
  cases h : tm[d]? with
  | none => rfl
  | some v => cases v <;> rfl
variable {R : Type}
theorem runOp_sound (hT : T.OK P) (hΓ : GamOK P Γ) {A : Array Value} {nx i : Nat} (hI : Inv cx A (nx + STR * i) S a W) {o : Oper} {l : List Step} {K : St E → List Step → Option R} {r : R} (h : runOp T Γ i o nx S l K = some r)
    {N : Act → World → Prop} {Q : Exit → Act → World → Prop} (hN : ∀ S' l' a' W', K S' l' = some r → Inv cx A (nx + STR * (i + 1)) S' a' W' → N a' W') : o.wp P a W N Q := by
  unfold runOp at h
  obtain ⟨x, rds, h1, h2⟩ := RM.run_out h
  cases hc : (x.2.map (·.1)).all fun k => rds.any (Nat.beq k) || (Nat.ble (nx + STR * i) k && Nat.blt k (nx + STR * i + STR)) with
  | false => rw [hc] at h2; cases h2
  | true =>
    rw [hc, cond_true] at h2
    obtain ⟨G, hS⟩ := hI.sim
    refine aopC_sound hT hΓ hS (hI.fresh (Nat.le_refl _)) h1 fun v W' G' hS' hv => ?_
    have hnx : ∀ k, (lk (x.2 ++ S.H) k).isSome = true → k < nx + STR * (i + 1) := by
      intro k hk
      rw [lk_append] at hk
      have e : nx + STR * (i + 1) = nx + STR * i + STR := by rw [Nat.mul_add]; omega
      rw [e]
      split at hk
      · rename_i b hl
        have := List.all_eq_true.1 hc k (List.mem_map.2 ⟨_, lk_mem hl, rfl⟩)
        simp only [Bool.or_eq_true, Bool.and_eq_true] at this
        rcases this with hr | hr
        · obtain ⟨k', hk', hb⟩ := List.any_eq_true.1 hr
          obtain rfl := Nat.eq_of_beq_eq_true hb
          have : ∃ b, S.h k = some b := by
            have key : ∀ {α : Type} {m : RM E α} {l : List Nat} {x : α} {l' : List Nat}, RM.Out S.h m l x l' → ∀ i ∈ l', i ∈ l ∨ ∃ b, S.h i = some b := by
              intro α m
              induction m with
              | pure a => rintro l x l' ⟨rfl, rfl⟩ i hi; exact .inl hi
              | fail => intro l x l' h; exact h.elim
              | rd id k ih =>
                rintro l x l' ⟨b, hb, h⟩ i hi
                rcases ih b h i hi with h | h
                · rcases List.mem_cons.1 h with rfl | h
                  · exact .inr ⟨b, hb⟩
                  · exact .inl h
                · exact .inr h
              | chk b k ih => rintro l x l' ⟨hb, h⟩ i hi; exact ih h i hi
              | call m k ih => rintro l x l' ⟨b, hb, h⟩ i hi; exact ih b h i hi
            rcases key h1 k hk' with h | h
            · cases h
            · exact h
          obtain ⟨b, hb⟩ := this
          have := hI.nx k (St.h_k hb)
          omega
        · have := Nat.le_of_ble_eq_true hr.2
          omega
      · have := hI.nx k hk; omega
    obtain ⟨S', h3, h4⟩ := putK_sound (A := A) hS' hnx hI.defers hI.pin hv h2
    exact hN S' _ _ W' h3 h4
theorem skipOp_sound {A : Array Value} {nx : Nat} (hI : Inv cx A nx S a W) {o : Oper} {l : List Step} {K : St E → List Step → Option R} {r : R} (h : skipOp o S l K = some r)
    {N : Act → World → Prop} (hN : ∀ S' l' a' W', K S' l' = some r → Inv cx A nx S' a' W' → N a' W') : N (a.put o.dst undef) W := by
  obtain ⟨G, hS⟩ := hI.sim
  obtain ⟨S', h3, h4⟩ := putK_sound (A := A) (x := .a .undef) (v := undef) hS hI.nx hI.defers hI.pin rfl h
  exact hN S' _ _ W h3 h4
theorem Inv.mono {A : Array Value} {n m : Nat} (h : Inv cx A n S a W) (hm : n ≤ m) : Inv cx A m S a W := ⟨h.sim, fun k hk => Nat.lt_of_lt_of_le (h.nx k hk) hm, h.defers, h.pin⟩
theorem Inv.refine {A : Array Value} {n d : Nat} {x y : AV E} (h : Inv cx A n S a W) (hl : lk S.ρ d = some x) (hxy : x = y) : Inv cx A n { S with ρ := (d, y) :: S.ρ } a W := by
  obtain ⟨G, hS⟩ := h.sim
  refine ⟨⟨G, hS.congr (fun s => ?_) (fun _ => rfl) rfl⟩, h.nx, h.defers, h.pin⟩
  show lk ((d, y) :: S.ρ) s = _
  rw [lk_cons]
  split
  · rename_i e; subst e; rw [hl, hxy]
  · rfl
theorem runOps_sound (hT : T.OK P) (hΓ : GamOK P Γ) {all : Array Oper} {A : Array Value} {nx : Nat} {Q : Exit → Act → World → Prop} {r : R} {K : St E → List Step → Option R} : ∀ (ops : List Oper) (i : Nat) (S : St E) (l : List Step) (a : Act) (W : World), Inv cx A (nx + STR * i) S a W → runOps T Γ all nx ops i S l K = some r →
    (∀ S' l' a' W', K S' l' = some r → Inv cx A (nx + STR * (i + ops.length)) S' a' W' → Q .normal a' W') → wpList P all Q ops a W
  | [], i, S, l, a, W, hI, h, hK => hK S l a W h hI
  | o :: rest, i, S, l, a, W, hI, h, hK => by
    have hnext : ∀ S' l' a' W', runOps T Γ all nx rest (i + 1) S' l' K = some r → Inv cx A (nx + STR * (i + 1)) S' a' W' → wpList P all Q rest a' W' := by
      intro S' l' a' W' h hI
      refine runOps_sound hT hΓ rest (i + 1) S' l' a' W' hI h fun S2 l2 a2 W2 h2 hI2 => hK S2 l2 a2 W2 h2 ?_
      rw [show i + (o :: rest).length = i + 1 + rest.length by simp; omega]
      exact hI2
    have hmono : nx + STR * i ≤ nx + STR * (i + 1) := by rw [Nat.mul_add]; omega
    unfold runOps at h
    cases hg : o.guard with
    | none =>
      rw [hg] at h
      have hw : Region.wanted o (yielded all a.tmps) = true := by simp [Region.wanted, hg]
      simp only [wpList, hw, if_true]
      exact .inl (runOp_sound hT hΓ hI h hnext)
    | some gw =>
      obtain ⟨j, want⟩ := gw
      rw [hg] at h
      dsimp only at h
      cases hd : (all[j]?).bind (·.dst) with
      | none => rw [hd] at h; cases h
      | some d =>
        rw [hd] at h
        dsimp only at h
        have hy := yielded_of (all := all) (tm := a.tmps) hd
        split at h
        · rename_i b hl
          obtain ⟨G, hS⟩ := hI.sim
          have hv : a.tmps.getD d undef = .bool b := hS.tmps d _ hl
          rw [hv] at hy
          dsimp only at hy
          cases hdn : Nat.blt d S.n with
          | false => rw [hdn] at h; cases h
          | true =>
            rw [hdn] at h
            cases b <;> cases want <;> simp only [cond_true, cond_false] at h
            · have hw : Region.wanted o (yielded all a.tmps) = true := by simp [Region.wanted, hg, hy]
              simp only [wpList, hw, if_true]
              exact .inl (runOp_sound hT hΓ (hI.refine hl rfl) h hnext)
            · have hw : Region.wanted o (yielded all a.tmps) = false := by simp [Region.wanted, hg, hy]
              simp only [wpList, hw, Bool.false_eq_true, if_false]
              exact skipOp_sound ((hI.refine hl rfl).mono hmono) h hnext
            · have hw : Region.wanted o (yielded all a.tmps) = false := by simp [Region.wanted, hg, hy]
              simp only [wpList, hw, Bool.false_eq_true, if_false]
              exact skipOp_sound ((hI.refine hl rfl).mono hmono) h hnext
            · have hw : Region.wanted o (yielded all a.tmps) = true := by simp [Region.wanted, hg, hy]
              simp only [wpList, hw, if_true]
              exact .inl (runOp_sound hT hΓ (hI.refine hl rfl) h hnext)
        · rename_i hl
          obtain ⟨G, hS⟩ := hI.sim
          have hv : a.tmps.getD d undef = undef := hS.tmps d _ hl
          rw [hv] at hy
          have hw : Region.wanted o (yielded all a.tmps) = false := by simp [Region.wanted, hg, hy, undef]
          simp only [wpList, hw, Bool.false_eq_true, if_false]
          exact skipOp_sound (hI.mono hmono) h hnext
        · cases h
end Mir
