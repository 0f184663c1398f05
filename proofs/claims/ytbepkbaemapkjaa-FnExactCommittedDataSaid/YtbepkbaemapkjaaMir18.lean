/- The mirror machine: a call by its specification. -/
import Derived.Test.YtbepkbaemapkjaaMir17
namespace Mir
set_option linter.unusedVariables false
set_option linter.unusedSimpArgs false
open Go
variable {E : Env} {P : Program} {T : Tb} {cx : Cx} {G G' : Gh} {S : St E} {tm : Array Value} {a : Act} {W W' : World}

def MutCv (G : Gh) : Ty → Cv E → Prop
  | .st n, .agg xs => MutL G (E.fl n) xs
  | .st _, _ => False
  | .arr _ _, .arr _ _ _ => True
  | .arr _ _, _ => False
  | .pbx _ _, _ => False
  | t, .at x => MutA G t x
  | _, _ => False
theorem MutCv.ext {K K' : Nat → Prop} (hE : Ext G K W G' K' W') {t : Ty} {v : Cv E} (hk : ∀ i ∈ ownIds v.cells, K i) (hc : MutCv G t v) : MutCv G' t v := by
  cases v with
  | agg xs =>
    cases t with
    | st n => exact MutL.ext hE hk hc
    | _ => exact hc
  | arr k n xs => cases t <;> exact hc
  | «at» x =>
    have : ∀ {t : Ty}, MutA G t x → MutA G' t x := fun h => h.ext hE fun i hi => hk i (by subst hi; simp [Cv.cells, ownIds])
    cases t <;> first | exact hc | exact this hc
/-- What a mutable argument is: its numbers, known ones. -/
def MutP (G : Gh) (K : Nat → Prop) : Par → AV E → List Nat → Prop
  | .mut _ t, v, m => ∃ c, v = .c c ∧ m = ownIds c.cells ∧ MutCv G t c
  | .box _ _ _, v, m => ∃ id m1, v = .c (.at (.ptr id 0)) ∧ m = id :: m1 ∧ K id
  | _, _, _ => True
def MutPs (G : Gh) (K : Nat → Prop) : List Par → List (AV E) → List Nat → Prop
  | [], _, m => m = []
  | p :: ps, vs, m => ∃ v r m1 m', vs = v :: r ∧ m = m1 ++ m' ∧ MutP G K p v m1 ∧ MutPs G K ps r m'
theorem ownIds_arr (k : IntKind) (xs : List Int) : ownIds (xs.map (At.int (E := E) k)) = [] := by
  induction xs with
  | nil => rfl
  | cons x xs ih => exact ih
theorem mutCv_of (hS : Sim cx G S tm W) {dp : Bool} {t : Ty} {v : Cv E} {l l' l2 l3 m : List Nat} {d : Ty.D E.S t} (h : RM.Out S.h (ofCv E t v) l d l') (h2 : RM.Out S.h (ownCv E false dp t v) l2 m l3) : MutCv G t v ∧ m = ownIds v.cells := by
  cases v with
  | agg xs =>
    cases t with
    | st n =>
      obtain ⟨y, l1, h1, h⟩ := RM.Out_bind h
      exact mutL_of hS h1 h2
    | _ => exact h.elim
  | arr k n xs =>
    cases t with
    | arr k' n' => exact ⟨trivial, by rw [h2.1]; exact (ownIds_arr k xs).symm⟩
    | _ => exact h.elim
  | «at» x =>
    cases t with
    | st n => exact h.elim
    | arr k n => exact h.elim
    | pbx b n =>
      cases x with
      | ptr id o => cases o <;> exact h2.elim
      | _ => exact h.elim
    | _ => exact mutA_of hS h h2
theorem inpP_mut (hS : Sim cx G S tm W) {p : Par} {v : AV E} {l l' : List Nat} {q : Inp E (p.I E)} (h : RM.Out S.h (inpP E p v) l q l') : MutP G S.k p v q.m := by
  cases p with
  | «mut» dp t =>
    cases v with
    | c v =>
      obtain ⟨d, l1, h1, h⟩ := RM.Out_bind h
      obtain ⟨m, l2, h2, h⟩ := RM.Out_bind h
      obtain rfl := h.1
      obtain ⟨i1, i2⟩ := mutCv_of hS h1 h2
      exact ⟨v, rfl, i2, i1⟩
    | _ => exact h.elim
  | box dp b n =>
    have hid : ∃ id, v = .c (.at (.ptr id 0)) := by
      cases v with
      | c v =>
        cases v with
        | «at» x =>
          cases x with
          | ptr id o =>
            cases o with
            | zero => exact ⟨id, rfl⟩
            | succ o => exact h.elim
          | _ => exact h.elim
        | _ => exact h.elim
      | _ => exact h.elim
    obtain ⟨id, rfl⟩ := hid
    obtain ⟨c, hc, h⟩ := h
    dsimp only at h
    split at h
    · have hb' := RM.Out_bif h; clear h; obtain ⟨ht, h⟩ := hb'
      obtain ⟨d, l1, h1, h⟩ := RM.Out_bind h
      obtain ⟨m, l2, h2, h⟩ := RM.Out_bind h
      obtain rfl := h.1
      exact ⟨id, m, rfl, rfl, St.h_k hc⟩
    · exact h.elim
  | _ => trivial
theorem inp_mut (hS : Sim cx G S tm W) : ∀ {ps : List Par} {vs : List (AV E)} {l l' : List Nat} {q : Inp E (IT E ps)}, RM.Out S.h (inp E ps vs) l q l' → MutPs G S.k ps vs q.m
  | [], [], _, _, q, h => by obtain rfl := h.1; rfl
  | [], _ :: _, _, _, _, h => h.elim
  | p :: ps, [], _, _, _, h => h.elim
  | p :: ps, v :: vs, _, _, q, h => by
    obtain ⟨a, l1, h1, h⟩ := RM.Out_bind h
    obtain ⟨q', l2, h2, h⟩ := RM.Out_bind h
    obtain rfl := h.1
    exact ⟨v, vs, a.m, q'.m, rfl, rfl, inpP_mut hS h1, inp_mut hS h2⟩
theorem MutP.ext {K K' : Nat → Prop} (hE : Ext G K W G' K' W') {p : Par} {v : AV E} {m : List Nat} (hk : ∀ i ∈ m, K i) (h : MutP G K p v m) : MutP G' K' p v m := by
  cases p with
  | «mut» dp t => obtain ⟨c, hv, hm, hc⟩ := h; exact ⟨c, hv, hm, hc.ext hE (by rw [← hm]; exact hk)⟩
  | box dp b n => obtain ⟨id, m1, hv, hm, hk'⟩ := h; exact ⟨id, m1, hv, hm, hE.K _ hk'⟩
  | _ => trivial
theorem MutPs.ext {K K' : Nat → Prop} (hE : Ext G K W G' K' W') : ∀ {ps : List Par} {vs : List (AV E)} {m : List Nat}, (∀ i ∈ m, K i) → MutPs G K ps vs m → MutPs G' K' ps vs m
  | [], _, _, _, h => h
  | p :: ps, _, _, hk, ⟨v, r, m1, m', hv, hm, hp, h⟩ => ⟨v, r, m1, m', hv, hm, hp.ext hE (fun i hi => hk i (by simp [hm, hi])), MutPs.ext hE (fun i hi => hk i (by simp [hm, hi])) h⟩
theorem AVsR.ext {K K' : Nat → Prop} (hE : Ext G K W G' K' W') : ∀ {xs : List (AV E)} {vs : List Value}, AVsR G K W xs vs → AVsR G' K' W' xs vs
  | [], _, h => h
  | _ :: _, _, ⟨v, r, hv, ha, hr⟩ => ⟨v, r, hv, ha.ext hE, AVsR.ext hE hr⟩
theorem backCv_le (dp : Bool) (t : Ty) (x : Ty.D E.S t) (v : Cv E) (fr : Nat) : fr ≤ (backCv E dp t x v fr).2 := by
  cases t with
  | st n => cases v <;> first | exact backAts_le _ _ _ _ _ | exact Nat.le_refl _
  | slice e t => cases v <;> first | exact Nat.le_refl _ | (rename_i x'; cases x' <;> first | exact backRow_le _ _ _ _ _ _ | exact Nat.le_refl _)
  | _ => cases v <;> exact Nat.le_refl _
theorem backCv_sound {dp : Bool} {t : Ty} {x : Ty.D E.S t} {w : Value} {v : Cv E} {fp : List Nat} {fr : Nat} (hS : Sim cx G S tm W) (ho : OwnE E W G.F dp t x w fp) (hnd : fp.Nodup) (hfree : ∀ b ∈ fp, Free cx G S b) (hm : MutCv G t v) (hv : ∃ K W2, CvR G K W2 v w) (hids : (ownIds v.cells).Nodup) (hgone : ∀ i ∈ ownIds v.cells, S.h i = none ∧ S.k i)
    (hnew : ∀ k, fr ≤ k → k < (backCv E dp t x v fr).2 → lk S.H k = none) :
    ∃ G', Sim cx G' { S with H := (backCv E dp t x v fr).1 ++ S.H } tm W ∧ Ext G S.k W G' (St.k { S with H := (backCv E dp t x v fr).1 ++ S.H }) W ∧ G'.F = G.F ∧ (∀ k, k ∉ fp → Free cx G S k → Free cx G' { S with H := (backCv E dp t x v fr).1 ++ S.H } k) ∧
      ∀ i, i ∉ ownIds v.cells → (i < fr ∨ (backCv E dp t x v fr).2 ≤ i) → lk (backCv E dp t x v fr).1 i = none := by
  obtain ⟨K, W2, hv⟩ := hv
  have same : ∃ G', Sim cx G' { S with H := ([] : Up E) ++ S.H } tm W ∧ Ext G S.k W G' (St.k { S with H := ([] : Up E) ++ S.H }) W ∧ G'.F = G.F ∧ (∀ k, k ∉ fp → Free cx G S k → Free cx G' { S with H := ([] : Up E) ++ S.H } k) ∧ ∀ i, i ∉ ownIds v.cells → (i < fr ∨ fr ≤ i) → lk ([] : Up E) i = none :=
    ⟨G, hS, Ext.refl _ _ _, rfl, fun _ _ h => h, fun _ _ _ => rfl⟩
  cases v with
  | agg xs =>
    cases t with
    | st n =>
      obtain ⟨vs, rfl, ho⟩ := ho
      obtain ⟨vs', he, ha⟩ := hv
      have : vs = vs' := by simpa using he
      subst this
      exact back_sound hS ho hnd hfree hm ⟨K, W2, ha⟩ hids hgone hnew
    | arr k n => exact hm.elim
    | _ => exact hm.elim
  | arr k n xs =>
    cases t with
    | arr k' n' => exact same
    | _ => exact hm.elim
  | «at» x' =>
    cases t with
    | st n => exact hm.elim
    | arr k n => exact hm.elim
    | slice e t =>
      cases x' with
      | own id =>
        have hv' : w = G.hd id := hv.2.1
        have hidk : S.k id := (hgone id (by simp [Cv.cells, ownIds])).2
        obtain ⟨G', j1, j2, j3, j4⟩ := hS.backRow (dp := dp) (fr := fr) (id := id) (hgone id (by simp [Cv.cells, ownIds])).1 hidk hm (by rw [← hv']; exact ho) hfree hnew
        refine ⟨G', j1, j2, j3, j4, fun i hi hlt => ?_⟩
        simp only [Cv.cells, ownIds, List.mem_cons, not_or] at hi
        exact backRow_key dp e t x id fr i hi.1 hlt
      | nils => exact same
      | _ => cases hm
    | int k => exact same
    | bool => exact same
    | str => exact same
    | rsl e t => exact same
    | pbx b n => exact hm.elim
theorem outp_le : ∀ (ps : List Par) (o : OT E ps) (vs : List (AV E)) (fr : Nat), fr ≤ (outp E ps o vs fr).2
  | [], _, _, _ => Nat.le_refl _
  | p :: _, _, [], _ => by cases p <;> exact Nat.le_refl _
  | p :: ps, o, v :: vs, fr => by
    cases p with
    | «mut» dp t =>
      cases v with
      | c v => exact Nat.le_trans (backCv_le dp t o.1 v fr) (outp_le ps o.2 vs _)
      | _ => exact Nat.le_refl _
    | box dp b n =>
      cases v with
      | c v =>
        cases v with
        | «at» x =>
          cases x with
          | ptr id off =>
            cases off with
            | zero => exact Nat.le_trans (newAts_le dp _ _ fr) (outp_le ps o.2 vs _)
            | succ _ => exact Nat.le_refl _
          | _ => exact Nat.le_refl _
        | _ => exact Nat.le_refl _
      | _ => exact Nat.le_refl _
    | val t => exact outp_le ps o.2 vs fr
    | clo f c => exact outp_le ps o.2 vs fr
    | cap c => exact outp_le ps o.2 vs fr
    | mov dp t => exact outp_le ps o.2 vs fr
    | movb dp b n => exact outp_le ps o.2 vs fr
theorem Ext.at {K K' : Nat → Prop} (h : Ext G K W G' K' W') (W2 : World) : Ext G K W2 G' K' W2 := ⟨h.loc, h.hd, h.ln, h.sz, h.inh, h.fp, h.K, h.F, fun _ _ => rfl⟩
theorem app3 {α : Type} (a b c : List α) : (a ++ b) ++ c = a ++ (b ++ c) := List.append_assoc a b c
/-- What the state is behind the arguments that come back. -/
def OutG (cx : Cx) (tm : Array Value) (W : World) (ps : List Par) (o : OT E ps) (vs : List (AV E)) (fp m : List Nat) (fr : Nat) (G : Gh) (S : St E) : Prop :=
  ∃ G', Sim cx G' { S with H := (outp E ps o vs fr).1 ++ S.H } tm W ∧ Ext G S.k W G' (St.k { S with H := (outp E ps o vs fr).1 ++ S.H }) W ∧ G'.F = G.F ∧ (∀ k, k ∉ fp → Free cx G S k → Free cx G' { S with H := (outp E ps o vs fr).1 ++ S.H } k) ∧
      ∀ i, i ∉ m → (i < fr ∨ (outp E ps o vs fr).2 ≤ i) → lk (outp E ps o vs fr).1 i = none
theorem outp_sound : ∀ {ps : List Par} {o : OT E ps} {vs : List (AV E)} {ws : List Value} {fp m : List Nat} {fr : Nat} {G : Gh} {S : St E}, (hS : Sim cx G S tm W) → OutPs E W G.F ps o ws fp → fp.Nodup → (∀ b ∈ fp, Free cx G S b) → MutPs G S.k ps vs m → (∃ W2, AVsR G S.k W2 vs ws) → m.Nodup → (∀ i ∈ m, S.h i = none ∧ S.k i) →
    (∀ k, fr ≤ k → k < (outp E ps o vs fr).2 → lk S.H k = none) → OutG cx tm W ps o vs fp m fr G S
  | [], _, _, _, _, _, _, G, S, hS, _, _, _, _, _, _, _, _ => ⟨G, hS, Ext.refl _ _ _, rfl, fun _ _ h => h, fun _ _ _ => rfl⟩
  | p :: ps, o, vs, ws, fp, m, fr, G, S, hS, ⟨w, ws', f1, f2, hw, hf, ho1, ho⟩, hnd, hfree, ⟨v, vs', m1, m', hv, hme, hmp, hm⟩, ⟨W2, ha⟩, hmn, hg, hnew => by
    subst hv hw hf hme
    obtain ⟨_, _, he, hav, ha⟩ := ha
    cases he
    obtain ⟨hn1, hn2, hdis⟩ := List.nodup_append.1 hnd
    obtain ⟨hm1, hm2, hmd⟩ := List.nodup_append.1 hmn
    have skip : (∀ fr, outp E (p :: ps) o (v :: vs') fr = outp E ps o.2 vs' fr) → f1 = [] → OutG cx tm W (p :: ps) o (v :: vs') (f1 ++ f2) (m1 ++ m') fr G S := by
      intro heq hf1
      subst hf1
      unfold OutG
      rw [heq] at hnew ⊢
      obtain ⟨G1, i1, i2, i3, i4, i5⟩ := outp_sound (ps := ps) hS ho hn2 (fun b hb => hfree b (by simp [hb])) hm ⟨W2, ha⟩ hm2 (fun i hi => hg i (by simp [hi])) hnew
      exact ⟨G1, i1, i2, i3, i4, fun i hi => i5 i (fun h => hi (by simp [h]))⟩
    cases p with
    | val t => exact skip (fun _ => by cases v <;> rfl) ho1
    | clo f c => exact skip (fun _ => by cases v <;> rfl) ho1
    | cap c => exact skip (fun _ => by cases v <;> rfl) ho1
    | mov dp t => exact skip (fun _ => by cases v <;> rfl) ho1
    | movb dp b n => exact skip (fun _ => by cases v <;> rfl) ho1
    | «mut» dp t =>
      obtain ⟨c, rfl, rfl, hmc⟩ := hmp
      have le1 := backCv_le dp t o.1 c fr
      have le2 := outp_le ps o.2 vs' (backCv E dp t o.1 c fr).2
      unfold OutG
      simp only [outp] at hnew ⊢
      obtain ⟨G1, i1, i2, i3, i4, i5⟩ := outp_sound (ps := ps) (fr := (backCv E dp t o.1 c fr).2) hS ho hn2 (fun b hb => hfree b (by simp [hb])) hm ⟨W2, ha⟩ hm2 (fun i hi => hg i (by simp [hi])) (fun k h1 h2 => hnew k (by omega) h2)
      have hk : ∀ i ∈ ownIds c.cells, S.k i := fun i hi => (hg i (by simp [hi])).2
      have hfr : ∀ i ∈ ownIds c.cells ++ m', i < fr ∨ (outp E ps o.2 vs' (backCv E dp t o.1 c fr).2).2 ≤ i := fun i hi => not_fresh (hg i hi).2 hnew
      obtain ⟨G2, j1, j2, j3, j4, j5⟩ := backCv_sound (dp := dp) (fr := fr) (v := c) i1 (by rw [i3]; exact ho1) hn1 (fun b hb => i4 b (fun h2 => hdis b hb b h2 rfl) (hfree b (by simp [hb]))) (hmc.ext i2 hk) ⟨_, W2, CvR.ext (i2.at W2) hav⟩ hm1 (fun i hi => ⟨h_append_none (i5 i (fun h => hmd i hi i h rfl) (by have := hfr i (by simp [hi]); omega)) (hg i (by simp [hi])).1, i2.K i (hk i hi)⟩) (fun k h1 h2 => by
        show lk (_ ++ S.H) k = none
        rw [lk_append, i5 k (fun hk => by have := hfr k (by simp [hk]); omega) (by omega)]
        exact hnew k h1 (by omega))
      rw [app3]
      refine ⟨G2, j1, i2.trans j2, j3.trans i3, fun k hk hf => j4 k (fun h => hk (by simp [h])) (i4 k (fun h => hk (by simp [h])) hf), fun i hi hlt => ?_⟩
      simp only [List.mem_append, not_or] at hi
      rw [lk_append, j5 i hi.1 (by omega)]
      exact i5 i hi.2 (by omega)
    | box dp b n =>
      obtain ⟨id, m1', rfl, rfl, hid⟩ := hmp
      have le1 := newAts_le dp (E.fl n) (E.opn n o.1) fr
      have le2 := outp_le ps o.2 vs' (newAts E dp (E.fl n) (E.opn n o.1) fr).2.2
      unfold OutG
      simp only [outp] at hnew ⊢
      obtain ⟨G1, i1, i2, i3, i4, i5⟩ := outp_sound (ps := ps) (fr := (newAts E dp (E.fl n) (E.opn n o.1) fr).2.2) hS ho hn2 (fun b hb => hfree b (by simp [hb])) hm ⟨W2, ha⟩ hm2 (fun i hi => hg i (by simp [hi])) (fun k h1 h2 => hnew k (by omega) h2)
      have hidfr := not_fresh hid hnew
      obtain ⟨g, us, f, rfl, hg1, hg2, rfl⟩ := ho1
      have hgl : g = G.loc id := by have := hav.2; injection this with e; injection e with e; injection e
      obtain ⟨hn3, hn4⟩ := List.nodup_cons.1 hn1
      have hm'k : ∀ k, fr ≤ k → k < (newAts E dp (E.fl n) (E.opn n o.1) fr).2.2 → k ∉ m' := fun k h1 h2 hk => by
        rcases not_fresh (hg k (by simp [hk])).2 hnew with h | h <;> omega
      obtain ⟨G2, j1, j2, j3, j4, j5⟩ := newAts_sound (dp := dp) (fr := fr) (vs := us) (h := E.opn n o.1) i1 (by rw [i3]; exact hg2) hn4 (fun b hb => i4 b (fun h2 => hdis b (by simp [hb]) b h2 rfl) (hfree b (by simp [hb]))) (fun k h1 h2 => by
        show lk (_ ++ S.H) k = none
        rw [lk_append, i5 k (hm'k k h1 h2) (by omega)]
        exact hnew k h1 (by omega))
      have hl1 : lk (outp E ps o.2 vs' (newAts E dp (E.fl n) (E.opn n o.1) fr).2.2).1 id = none := i5 id (fun h => hmd id (by simp) id h rfl) (by omega)
      have hl2 : lk (newAts E dp (E.fl n) (E.opn n o.1) fr).2.1 id = none := newAts_key _ _ _ _ _ (by omega)
      have hgone : St.h { S with H := (newAts E dp (E.fl n) (E.opn n o.1) fr).2.1 ++ ((outp E ps o.2 vs' (newAts E dp (E.fl n) (E.opn n o.1) fr).2.2).1 ++ S.H) } id = none :=
        h_append_none (S := { S with H := (outp E ps o.2 vs' (newAts E dp (E.fl n) (E.opn n o.1) fr).2.2).1 ++ S.H }) hl2 (h_append_none hl1 (hg id (by simp)).1)
      have hloc : G2.loc id = g := by rw [j2.loc id (i2.K id hid), i2.loc id hid, hgl]
      have hfg := j5 g hn3 (i4 g (fun h2 => hdis g (by simp) g h2 rfl) (hfree g (by simp)))
      have hoc : ∀ k, Occ (E := E) G2 id (.box b (newAts E dp (E.fl n) (E.opn n o.1) fr).1) k → k = g := fun k h => (show k = G2.loc id from h).trans hloc
      have k1 := j1.adopt (id := id) (b := .box b (newAts E dp (E.fl n) (E.opn n o.1) fr).1) hgone ext_self rfl ⟨us, by rw [hloc]; exact hg1, AtsR.ext ext_self j4⟩ rfl (fun k hk => by rw [hoc k hk]; exact hfg)
      refine ⟨G2, ?_, (i2.trans j2).trans ?_, j3.trans i3, fun k hk hf => ?_, fun i hi hlt => ?_⟩
      · simpa using k1
      · have := ext_self (G := G2) (W := W) (id := id) (b := (.box b (newAts E dp (E.fl n) (E.opn n o.1) fr).1 : Blk E)) (S := { S with H := (newAts E dp (E.fl n) (E.opn n o.1) fr).2.1 ++ ((outp E ps o.2 vs' (newAts E dp (E.fl n) (E.opn n o.1) fr).2.2).1 ++ S.H) })
        simpa using this
      · have h1 := i4 k (fun h => hk (by simp [h])) hf
        have h2 := j5 k (fun h => hk (by simp [h])) h1
        have h3 := h2.cons j1 (id := id) (b := .box b (newAts E dp (E.fl n) (E.opn n o.1) fr).1) (ext_self (W := W)) rfl (fun h => hk (by simp [hoc k h]))
        simpa using h3
      · simp only [List.mem_cons, List.mem_append, not_or] at hi
        simp only [List.cons_append, lk_cons]
        rw [if_neg (fun e => hi.1.1 e.symm), lk_append, newAts_key _ _ _ _ _ (by omega)]
        exact i5 i hi.2 (by omega)
end Mir
