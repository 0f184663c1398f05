/- The mirror machine: deep rows, 5: calls that write a slice of an element; one operation. -/
import Derived.Test.YtbepkbaemapkjaaMir36
namespace Mir
set_option linter.unusedVariables false
set_option linter.unusedSimpArgs false
open Go
variable {E : Env} {P : Program} {T : Tb} {cx : Cx} {G G' : Gh} {S : St E} {tm : Array Value} {a : Act} {W W' : World}

theorem attachK_sound (hS : Sim cx G S tm W) {id fr lim e n hid i c : Nat} {xs : List (E.S n)} {e' : Nat} {t' : Ty} {ys : List (Ty.D E.S t')} (hlim : lk S.H lim = none) (hb : S.h id = some (.hole e n xs hid i c)) (hne : id ≠ fr) {b : Blk E} (hbf : S.h fr = some b) (hbz : b.fz = false)
    {f2 : List Nat} {d2 : Nat} (hd2 : DeepA E W d2 (.slice e' t') ys (G.hd fr) f2) (hhand : Hand G S [fr] f2) (hinh : G.inh hid i c = G.hd fr) {H : Nat → Option (Blk E)} {S0 : St E} (hH : H = S0.h) {l l' : List Nat} {u : Up E} (h : RM.Out H (attachK E id fr lim e n xs i c e' t' ys) l u l') :
    ∃ G', Sim cx G' { S with H := u ++ S.H } tm W ∧ Ext G S.k W G' (St.k { S with H := u ++ S.H }) W := by
  subst hH
  unfold attachK at h
  obtain ⟨x, l1, h1, h⟩ := RM.Out_bind h
  obtain rfl := h.1
  unfold putSl at h1
  have hb1 := RM.Out_bind h1; clear h1; obtain ⟨h', l2, h1, h2⟩ := hb1
  obtain rfl := h2.1
  obtain ⟨b0, b1, b2, hci, hil, cap, cur, d, fps, hhd, hcap, hh, hlen, hmax, hcur, hfp, hnd, hfl, hcell, k1, k2⟩ := hS.blks id _ hb
  rw [el_get hil] at h1
  have hilt : i < fps.length := by rw [hfl]; exact hil
  have hocc : ∀ k ∈ G.loc id :: fps.flatten, Occ G id (.hole e n xs hid i c : Blk E) k := fun k hk => by
    rcases List.mem_cons.1 hk with rfl | hk
    · exact .inl rfl
    · exact .inr (by rw [hfp]; exact hk)
  have hf2 : f2.Nodup := hhand.nodup (by simp)
  have hf2o : ∀ k ∈ f2, Occ G fr b k := fun k hk => by
    obtain ⟨j, hj, c, hc, ho⟩ := hhand.blks k hk
    simp at hj; subst hj
    rw [hbf] at hc; cases hc; exact ho
  have hdis : ∀ k ∈ f2, k ∉ G.loc id :: fps.flatten := fun k h1 h2 => hne (hS.inj id fr _ _ k hb hbf (hocc k h2) (hf2o k h1))
  obtain ⟨hnl, hnf⟩ := List.nodup_cons.1 hnd
  have hm : ∀ j ∈ [id, fr], ∃ b, S.h j = some b ∧ b.fz = false := fun j hj => by
    rcases List.mem_cons.1 hj with rfl | hj
    · exact ⟨_, hb, rfl⟩
    · simp at hj; subst hj; exact ⟨_, hbf, hbz⟩
  obtain ⟨s1, s2, s3⟩ := hS.release (W' := W) [id, fr] hm (fun k _ => .inr rfl) (Nat.le_refl _) ⟨rfl, rfl, rfl⟩
  have hvs : (seg cur.toList i (tsz E (.st n)))[c]? = some (G.hd fr) := by
    rw [seg_get, if_pos hci, ← hinh]; simpa using hcell
  obtain ⟨fp, j1, j2⟩ := DeepH.fill (hd2 |> DeepA.same d2 (max d d2) (Nat.le_max_right _ _) _ _ _ _ (fun _ _ => rfl)) (k2.raise (Nat.le_max_left _ _) (fun _ _ => rfl)) hvs h1
  have hperm := flatten_set hilt fp
  have hp1 := flatten_get hilt
  have hn1 := List.nodup_append.1 (hp1.nodup_iff.1 hnf)
  have hmem : ∀ k, k ∈ (fps.set i fp).flatten → k ∈ f2 ∨ k ∈ fps.flatten := fun k hk => by
    rcases List.mem_append.1 (hperm.mem_iff.1 hk) with h | h
    · rcases List.mem_append.1 (j2.mem_iff.1 h) with h | h
      · exact .inl h
      · exact .inr (getD_mem h)
    · exact .inr (hp1.mem_iff.2 (List.mem_append_right _ h))
  have hndp : (fps.set i fp).flatten.Nodup := hperm.nodup_iff.2 (List.nodup_append.2 ⟨j2.nodup_iff.2 (List.nodup_append.2 ⟨hf2, hn1.1, fun k h1 k' h2 e => hdis k h1 (List.mem_cons_of_mem _ (getD_mem (e ▸ h2)))⟩), hn1.2.1, fun k h1 k' h2 e => by
    subst e
    rcases List.mem_append.1 (j2.mem_iff.1 h1) with h | h
    · exact hdis k h (List.mem_cons_of_mem _ (hp1.mem_iff.2 (List.mem_append_right _ h2)))
    · exact hn1.2.2 k h k h2 rfl⟩)
  have hA : DeepA E W (max d d2 + 1) (.slice e (.st n)) (xs.set i (E.shut n h')) (G.hd id) (G.loc id :: (fps.set i fp).flatten) := by
    refine .inr ⟨G.loc id, cap, cur, fps.set i fp, by simpa using hhd, rfl, hcap, hh, by simpa using hlen, hmax, hcur, by simp [hfl], fun j hj => ?_⟩
    have hj' : j < xs.length := by simpa using hj
    by_cases hji : j = i
    · subst hji
      simp only [List.getElem_set_self]
      rw [List.getD_eq_getElem?_getD, List.getElem?_set_self hilt]
      show DeepL E _ (E.fl n) (E.opn n (E.shut n h')) _ _
      rw [E.opn_shut]
      exact j1
    · rw [List.getElem_set_ne (fun e => hji e.symm), List.getD_eq_getElem?_getD, List.getElem?_set_ne (fun e => hji e.symm), ← List.getD_eq_getElem?_getD]
      exact (k1 j hj' hji).raise (Nat.le_max_left _ _) (fun _ _ => rfl)
  have hidk := St.h_k hb
  have hlne : id ≠ lim := fun e => by unfold St.k at hidk; rw [e, hlim] at hidk; cases hidk
  obtain ⟨G', t1, t2, t3, t4, _⟩ := s1.adoptD (id := id) (hid := lim) (gones_h (by simp)) (fresh_gones hm hlim) hlne hA (List.nodup_cons.2 ⟨fun h => by
      rcases hmem _ h with h | h
      · exact hdis _ h (by simp)
      · exact hnl h, hndp⟩) (fun k hk => s3 k (by
      rcases List.mem_cons.1 hk with rfl | hk
      · exact .inr ⟨id, by simp, _, hb, hocc _ (by simp)⟩
      · rcases hmem k hk with h | h
        · exact .inr ⟨fr, by simp, _, hbf, hf2o k h⟩
        · exact .inr ⟨id, by simp, _, hb, hocc k (List.mem_cons_of_mem _ h)⟩)) (.inr ⟨rfl, by rw [b1]; simp, b2, fun _ => ⟨cap, by rw [hhd]; simp⟩⟩)
  exact ⟨G', t1, s2.trans t2⟩
theorem attach_sound {R U : Up E} (hS : Sim cx G { S with H := (R ++ U) ++ S.H } tm W) {id fr lim : Nat} (hne : id ≠ fr) (hlim : lk S.H lim = none) (hinh : ∀ e n xs hid i c, lk U id = some (.hole e n xs hid i c) → G.inh hid i c = G.hd fr) {l l' : List Nat} {u : Up E} (h : RM.Out S.h (attach E R U id fr lim) l u l') :
    ∃ G', Sim cx G' { S with H := u ++ ((R ++ U) ++ S.H) } tm W ∧ Ext G (St.k { S with H := (R ++ U) ++ S.H }) W G' (St.k { S with H := u ++ ((R ++ U) ++ S.H) }) W := by
  unfold attach at h
  have hb' := RM.Out_bif h; clear h; obtain ⟨hc, h⟩ := hb'
  simp only [Bool.and_eq_true, Option.isNone_iff_eq_none] at hc
  split at h
  rotate_left
  · exact h.elim
  rename_i e n xs hid i c hhole
  have hb : St.h { S with H := (R ++ U) ++ S.H } id = some (.hole e n xs hid i c) := by
    rw [h_append, lk_append, hc.2, hhole]
  have hl : lk ((R ++ U) ++ S.H) lim = none := by rw [lk_append, hc.1]; exact hlim
  have hi := hinh _ _ _ _ _ _ hhole
  split at h
  · rename_i e' t' ys hrow
    have hb' := RM.Out_bif h; clear h; obtain ⟨hfl, h⟩ := hb'
    have hbf : St.h { S with H := (R ++ U) ++ S.H } fr = some (.row e' t' ys false) := by rw [h_append, hrow]
    obtain ⟨f2, h1, h2⟩ := row_own hS (fun _ h => h) hbf
    obtain ⟨d2, h1⟩ := ShA.deep hfl h1
    exact attachK_sound hS hl hb hne hbf rfl h1 h2 hi rfl h
  · rename_i e' t' ys hh hrow
    have hbf : St.h { S with H := (R ++ U) ++ S.H } fr = some (.drow e' t' ys hh) := by rw [h_append, hrow]
    obtain ⟨f2, ⟨_, d2, h1⟩, h2⟩ := drow_own hS hbf
    exact attachK_sound hS hl hb hne hbf rfl h1 h2 hi rfl h
  · exact h.elim
theorem innIx_spec : ∀ {ps : List Par} {vs : List (AV E)} {k j id hid i c : Nat}, innIx ps vs k = some (j, id, hid, i, c) → k ≤ j ∧ vs[j - k]? = some (.c (.at (.inn id hid i c)))
  | [], _, _, _, _, _, _, _, h => by simp [innIx] at h
  | p :: ps, [], _, _, _, _, _, _, h => by cases p <;> simp [innIx] at h
  | p :: ps, v :: vs, k, j, id, hid, i, c, h => by
    have next : innIx ps vs (k + 1) = some (j, id, hid, i, c) → k ≤ j ∧ (v :: vs)[j - k]? = some (.c (.at (.inn id hid i c))) := fun h => by
      obtain ⟨h1, h2⟩ := innIx_spec h
      refine ⟨by omega, ?_⟩
      rw [show j - k = (j - (k + 1)) + 1 by omega, List.getElem?_cons_succ]
      exact h2
    cases p with
    | «mut» dp t =>
      simp only [innIx] at h
      split at h
      · cases h; exact ⟨Nat.le_refl _, by simp⟩
      · exact next h
    | _ => exact next (by simpa [innIx] using h)
theorem AVsR.get {G : Gh} {K : Nat → Prop} {W : World} : ∀ {xs : List (AV E)} {vs : List Value} {k : Nat} {x : AV E}, AVsR G K W xs vs → xs[k]? = some x → ∃ v, AVR G K W x v ∧ ∀ (G' : Gh) (K' : Nat → Prop) (y : AV E), AVsR G' K' W xs vs → AVR G' K' W y v → AVsR G' K' W (xs.set k y) vs
  | [], _, _, _, _, h => by simp at h
  | x :: xs, _, 0, y, ⟨v, r, hv, ha, hr⟩, h => by
    simp only [List.getElem?_cons_zero, Option.some.injEq] at h
    subst h hv
    refine ⟨v, ha, fun G' K' z hxs hz => ?_⟩
    obtain ⟨_, _, he, _, hr'⟩ := hxs
    cases he
    exact ⟨v, r, rfl, hz, hr'⟩
  | x :: xs, _, k + 1, y, ⟨v, r, hv, ha, hr⟩, h => by
    subst hv
    obtain ⟨w, h1, h2⟩ := AVsR.get hr (by simpa using h)
    refine ⟨w, h1, fun G' K' z hxs hz => ?_⟩
    obtain ⟨_, _, he, ha', hr'⟩ := hxs
    cases he
    exact ⟨v, r, rfl, ha', h2 G' K' z hr' hz⟩
theorem acallD_sound (hS : Sim cx G S tm W) {s : Spec E} {f : FuncId} (hf : Sound P E f s) {fr : Nat} {vs : List (AV E)} {ws : List Value} (ha : AVsR G S.k W vs ws) {l l' : List Nat} {r : Res E} (h : RM.Out S.h (acallD s fr vs) l r l') (hnew : ∀ k, fr ≤ k → k < fr + STR → lk S.H k = none) :
    Calls P f ws.toArray W fun e W' => ∃ v G', e = .returned v ∧ Sim cx G' { S with H := r.2 ++ S.H } tm W' ∧ Ext G S.k W G' (St.k { S with H := r.2 ++ S.H }) W' ∧ AVR G' (St.k { S with H := r.2 ++ S.H }) W' r.1 v := by
  unfold acallD at h
  split at h
  · exact acall_sound hS hf ha h hnew
  rename_i k id hid i c hix
  obtain ⟨U, l1, hU, h⟩ := RM.Out_bind h
  obtain ⟨q, l2, hq, h⟩ := RM.Out_bind h
  obtain ⟨u, l3, hu, h⟩ := RM.Out_bind h
  obtain rfl := h.1
  obtain ⟨_, hget⟩ := innIx_spec hix
  rw [Nat.sub_zero] at hget
  obtain ⟨w, hw, hset⟩ := ha.get hget
  have hw : AtR (E := E) G S.k W (.inn id hid i c) w := hw
  obtain ⟨G1, s1, s2, s3, s4, s5, s6, s7, s8, s9, s10⟩ := detach_sound hS (fun q h1 h2 => hnew q h1 (by simp only [STR]; omega)) hw hU
  have hargs := hset G1 _ (.a (.own fr)) (ha.ext s2) s3
  obtain ⟨l4, hq'⟩ := over_out (U := U) (k := []) hq
  have hc := acall_sound s1 hf hargs hq' (fun q h1 h2 => s4 q h1 (hnew q (by omega) (by simp only [STR]; omega)))
  refine hc.mono ?_
  rintro e W' ⟨v, G2, rfl, t1, t2, t3⟩
  have hidk : S.k id := hw.1
  have hne : id ≠ fr := fun e => by unfold St.k at hidk; rw [e, hnew fr (Nat.le_refl _) (by simp [STR])] at hidk; cases hidk
  have hassoc : q.2 ++ (U ++ S.H) = (q.2 ++ U) ++ S.H := (List.append_assoc _ _ _).symm
  have t1 : Sim cx G2 { S with H := (q.2 ++ U) ++ S.H } tm W' := by rw [← hassoc]; exact t1
  obtain ⟨G3, v1, v2⟩ := attach_sound t1 hne (hnew (fr + 63) (by omega) (by simp [STR])) (fun e n xs hid' i' c' hl => by
    obtain ⟨rfl, rfl, rfl⟩ := s5 _ _ _ _ _ _ hl
    rw [t2.inh _ s7, t2.hd _ s8, s6, s10]) hu
  have hassoc2 : (u ++ (q.2 ++ U)) ++ S.H = u ++ ((q.2 ++ U) ++ S.H) := List.append_assoc _ _ _
  have t2' : Ext G1 (St.k { S with H := U ++ S.H }) W G2 (St.k { S with H := (q.2 ++ U) ++ S.H }) W' := by rw [← hassoc]; exact t2
  have t3' : AVR G2 (St.k { S with H := (q.2 ++ U) ++ S.H }) W' q.1 v := by rw [← hassoc]; exact t3
  refine ⟨v, G3, rfl, ?_, ?_, ?_⟩
  · rw [hassoc2]; exact v1
  · rw [hassoc2]; exact (s2.trans t2').trans v2
  · rw [hassoc2]; exact t3'.ext v2
/-- One operation that calls nothing; deep rows too. -/
theorem dop_sound (hT : T.OK P) (hS : Sim cx G S a.tmps W) {fr : Nat} (hf : lk S.H fr = none) (hf1 : lk S.H (fr + 1) = none) {o : Oper} {l l' : List Nat} {r : Res E} (h : RM.Out S.h (dop T fr (lk S.ρ) o.op) l r l') :
    ∃ v W' G', ((execOp a.eval o).run P W = .ok (.value v) W' ∨ ((execOp a.eval o).run P W = .ok .skip W' ∧ v = undef)) ∧ Sim cx G' { S with H := r.2 ++ S.H } a.tmps W' ∧
      Ext G S.k W G' (St.k { S with H := r.2 ++ S.H }) W' ∧ AVR G' (St.k { S with H := r.2 ++ S.H }) W' r.1 v := by
  have fin : ∀ {m : Sem Value}, (∀ v W', m.run P W = .ok v W' → (execOp a.eval o).run P W = .ok (.value v) W') → Ends P cx G S a W m r → ∃ v W' G', ((execOp a.eval o).run P W = .ok (.value v) W' ∨ ((execOp a.eval o).run P W = .ok .skip W' ∧ v = undef)) ∧ Sim cx G' { S with H := r.2 ++ S.H } a.tmps W' ∧
      Ext G S.k W G' (St.k { S with H := r.2 ++ S.H }) W' ∧ AVR G' (St.k { S with H := r.2 ++ S.H }) W' r.1 v := by
    rintro m hm ⟨v, W', G', h1, h2⟩
    exact ⟨v, W', G', .inl (hm v W' h1), h2⟩
  have plain : ∀ {l}, RM.Out S.h (aop T fr (lk S.ρ) o.op) l r l' → ∃ v W' G', ((execOp a.eval o).run P W = .ok (.value v) W' ∨ ((execOp a.eval o).run P W = .ok .skip W' ∧ v = undef)) ∧ Sim cx G' { S with H := r.2 ++ S.H } a.tmps W' ∧
      Ext G S.k W G' (St.k { S with H := r.2 ++ S.H }) W' ∧ AVR G' (St.k { S with H := r.2 ++ S.H }) W' r.1 v := fun h => aop_sound hT hS hf h
  have harr : ∀ {α : Type} (xs : Array α) (l : List α), xs.toList = l → xs = l.toArray := fun xs l h => by rw [← h]
  unfold dop at h
  split at h
  · rename_i t x i ho
    rw [ho] at plain
    split at h
    · rename_i id hx
      obtain ⟨b, hb, h⟩ := h
      dsimp only at h
      split at h
      · exact fin (fun v W' hr => by simp [execOp, ho, hr]) (dIndexAddr_sound hT hS hx hb h)
      · exact plain h
    · exact plain h
  · rename_i t x ho
    rw [ho] at plain
    split at h
    · rename_i id i off hx
      obtain ⟨b, hb, h⟩ := h
      dsimp only at h
      split at h
      · exact fin (fun v W' hr => by simp [execOp, ho, hr]) (dLoad_sound hT hS hx hb h)
      · exact plain h
    · exact plain h
  · rename_i t x y ho
    rw [ho] at plain
    split at h
    · rename_i id i off hx
      obtain ⟨b, hb, h⟩ := h
      dsimp only at h
      split at h
      · obtain ⟨v, W', G', h1, h2⟩ := dStore_sound hT hS hf hx hb h
        refine ⟨v, W', G', .inr ?_, h2⟩
        simp only [Sem.run_bind] at h1
        simp only [execOp, ho, Sem.run_bind]
        revert h1
        cases (Instr.storeAt t (a.eval x) (a.eval y)).run P W with
        | ok u w => intro h1; simp at h1; obtain ⟨h1, rfl⟩ := h1; exact ⟨by simp, h1.symm⟩
        | halt _ _ => intro h1; simp at h1
      · exact plain h
    · exact plain h
  · rename_i t lo co ho
    rw [ho] at plain
    split at h
    · rename_i e s helem
      cases hc : T.deep && !(Ty.st s).flat1 E with
      | true => rw [hc] at h; exact fin (fun v W' hr => by simp [execOp, ho, hr]) (dMake_sound hT hS hf hf1 helem h)
      | false => rw [hc] at h; exact plain h
    · exact plain h
  · rename_i t n ps ho
    rw [ho] at plain
    split at h
    · rename_i e s helem
      cases hc : T.deep && !(Ty.st s).flat1 E with
      | true => rw [hc] at h; exact fin (fun v W' hr => by simp only [execOp, ho, Sem.run_bind, hr]; simp) (dBuild_sound hT hS hf hf1 helem h)
      | false => rw [hc] at h; exact plain h
    · exact plain h
  · rename_i c ho
    rw [ho] at plain
    obtain ⟨callee, args, argTypes⟩ := c
    dsimp only at h
    split at h
    · split at h
      · rename_i x hxs
        split at h
        · rename_i id hx
          obtain ⟨b, hb, h⟩ := h
          dsimp only at h
          split at h
          · split at h
            · rename_i t hts
              split at h
              · rename_i e hu
                obtain rfl := harr _ _ hxs
                obtain rfl := harr _ _ hts
                rw [one_sound h]
                rw [one_sound h] at fin
                exact fin (fun v W' hr => by simp [execOp, ho, resolve, invoke, builtin, hr]) (dLen_sound (ty0 := o.type) hT hS hx hb hu)
              · exact h.elim
            · exact h.elim
          · exact plain h
        · exact plain h
      · exact plain h
    · split at h
      · rename_i t u hts
        split at h
        · rename_i e s helem
          cases hc : T.deep && !(Ty.st s).flat1 E with
          | true =>
            rw [hc] at h
            simp only [cond_true] at h
            split at h
            · rename_i x y hxs
              obtain rfl := harr _ _ hxs
              obtain rfl := harr _ _ hts
              exact fin (fun v W' hr => by simp [execOp, ho, resolve, invoke, builtin, hr]) (dAppend_sound (rty := o.type) hT hS hf hf1 helem h)
            · exact h.elim
          | false => rw [hc] at h; exact plain h
        · exact plain h
      · exact plain h
    · exact plain h
  · exact plain h
end Mir
