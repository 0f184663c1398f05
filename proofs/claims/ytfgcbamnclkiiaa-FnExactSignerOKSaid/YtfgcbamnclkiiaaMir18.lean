/- The mirror machine: a call by its specification. -/
import Derived.Test.YtfgcbamnclkiiaaMir17
namespace Mir
set_option linter.unusedVariables false
set_option linter.unusedSimpArgs false
open Go
variable {E : Env} {P : Program} {T : Tb} {cx : Cx} {G G' : Gh} {S : St E} {tm : Array Value} {a : Act} {W W' : World}

def MutCv (G : Gh) : Ty → Cv E → Prop
  | .st n, .agg xs => MutL G (E.fl n) xs
  | .st _, _ => False
  | t, .at x => MutA G t x
  | _, _ => False
def MutPs (G : Gh) (K : Nat → Prop) : List Par → List (AV E) → List Nat → Prop
  | [], _, m => m = []
  | .val _ :: ps, vs, m => ∃ v r, vs = v :: r ∧ MutPs G K ps r m
  | .clo _ _ :: ps, vs, m => ∃ v r, vs = v :: r ∧ MutPs G K ps r m
  | .mut t :: ps, vs, m => ∃ v r m', vs = .c v :: r ∧ m = ownIds v.cells ++ m' ∧ MutCv G t v ∧ MutPs G K ps r m'
  | .box n :: ps, vs, m => ∃ id r m1 m', vs = .c (.at (.ptr id 0)) :: r ∧ m = id :: (m1 ++ m') ∧ K id ∧ MutPs G K ps r m'
theorem mutCv_of (hS : Sim cx G S tm W) {t : Ty} {v : Cv E} {l l' l2 l3 m : List Nat} {d : Ty.D E.S t} (h : RM.Out S.h (ofCv E t v) l d l') (h2 : RM.Out S.h (ownAll v.cells) l2 m l3) : MutCv G t v := by
  cases v with
  | agg xs =>
    cases t with
    | st n =>
      obtain ⟨y, l1, h1, h⟩ := RM.Out_bind h
      exact mutL_of hS (ownAll_ok h2) h1
    | _ => exact h.elim
  | arr k n xs => cases t <;> exact h.elim
  | «at» x => cases t <;> first | exact h.elim | exact mutA_of hS (ownAll_ok h2 x (by simp [Cv.cells])) h
theorem inp_mut (hS : Sim cx G S tm W) : ∀ {ps : List Par} {vs : List (AV E)} {l l' : List Nat} {q : Inp E (IT E ps)}, RM.Out S.h (inp E ps vs) l q l' → MutPs G S.k ps vs q.m
  | [], [], _, _, q, h => by obtain rfl := h.1; rfl
  | [], _ :: _, _, _, _, h => h.elim
  | p :: ps, [], _, _, _, h => by cases p <;> exact h.elim
  | .val t :: ps, v :: vs, _, _, q, h => by
    cases v with
    | c v =>
      have hb' := RM.Out_bif h; clear h; obtain ⟨hok, h⟩ := hb'
      obtain ⟨d, l1, h1, h⟩ := RM.Out_bind h
      obtain ⟨u, l2, h2, h⟩ := RM.Out_bind h
      obtain ⟨q', l3, h3, h⟩ := RM.Out_bind h
      obtain rfl := h.1
      exact ⟨_, _, rfl, inp_mut hS h3⟩
    | _ => exact h.elim
  | .mut t :: ps, v :: vs, _, _, q, h => by
    cases v with
    | c v =>
      obtain ⟨d, l1, h1, h⟩ := RM.Out_bind h
      obtain ⟨m, l2, h2, h⟩ := RM.Out_bind h
      obtain ⟨q', l3, h3, h⟩ := RM.Out_bind h
      obtain rfl := h.1
      exact ⟨v, vs, q'.m, rfl, by rw [(ownAll_ids h2).1], mutCv_of hS h1 h2, inp_mut hS h3⟩
    | _ => exact h.elim
  | .box n :: ps, v :: vs, _, _, q, h => by
    have hid : ∃ id, v = .c (.at (.ptr id 0)) := by
      cases v with
      | c v =>
        cases v with
        | «at» x =>
          cases x with
          | ptr id o =>
            cases o with
            | zero => exact ⟨id, rfl⟩
            | succ o => exact h.elim
          | _ => exact h.elim
        | _ => exact h.elim
      | _ => exact h.elim
    obtain ⟨id, rfl⟩ := hid
    obtain ⟨b, hb, h⟩ := h
    dsimp only at h
    split at h
    · rename_i t cells
      have hb' := RM.Out_bif h; clear h; obtain ⟨ht, h⟩ := hb'
      obtain ⟨d, l1, h1, h⟩ := RM.Out_bind h
      obtain ⟨m, l2, h2, h⟩ := RM.Out_bind h
      obtain ⟨q', l3, h3, h⟩ := RM.Out_bind h
      obtain rfl := h.1
      exact ⟨id, vs, m, q'.m, rfl, rfl, St.h_k hb, inp_mut hS h3⟩
    · exact h.elim
  | .clo f caps :: ps, v :: vs, _, _, q, h => by
    cases v with
    | clo g cs =>
      have hb' := RM.Out_bif h; clear h; obtain ⟨hok, h⟩ := hb'
      obtain ⟨d, l1, h1, h⟩ := RM.Out_bind h
      obtain ⟨u, l2, h2, h⟩ := RM.Out_bind h
      obtain ⟨q', l3, h3, h⟩ := RM.Out_bind h
      obtain rfl := h.1
      exact ⟨_, _, rfl, inp_mut hS h3⟩
    | _ => exact h.elim
theorem MutPs.ext {K K' : Nat → Prop} (hE : Ext G K W G' K' W') : ∀ {ps : List Par} {vs : List (AV E)} {m : List Nat}, (∀ i ∈ m, K i) → MutPs G K ps vs m → MutPs G' K' ps vs m
  | [], _, _, _, h => h
  | .val _ :: ps, _, _, hk, ⟨v, r, hv, h⟩ => ⟨v, r, hv, MutPs.ext hE hk h⟩
  | .clo _ _ :: ps, _, _, hk, ⟨v, r, hv, h⟩ => ⟨v, r, hv, MutPs.ext hE hk h⟩
  | .mut t :: ps, _, _, hk, ⟨v, r, m', hv, hm, hc, h⟩ => by
    refine ⟨v, r, m', hv, hm, ?_, MutPs.ext hE (fun i hi => hk i (by rw [hm]; simp [hi])) h⟩
    have hk' : ∀ i ∈ ownIds v.cells, K i := fun i hi => hk i (by rw [hm]; simp [hi])
    cases v with
    | agg xs =>
      cases t with
      | st n => exact MutL.ext hE hk' hc
      | _ => exact hc
    | arr k n xs => cases t <;> exact hc
    | «at» x =>
      have : ∀ {t : Ty}, MutA G t x → MutA G' t x := fun h => h.ext hE fun i hi => hk' i (by subst hi; simp [Cv.cells, ownIds])
      cases t <;> first | exact hc | exact this hc
  | .box n :: ps, _, _, hk, ⟨id, r, m1, m', hv, hm, hc, h⟩ => ⟨id, r, m1, m', hv, hm, hE.K _ hc, MutPs.ext hE (fun i hi => hk i (by rw [hm]; simp [hi])) h⟩
theorem AVsR.ext {K K' : Nat → Prop} (hE : Ext G K W G' K' W') : ∀ {xs : List (AV E)} {vs : List Value}, AVsR G K W xs vs → AVsR G' K' W' xs vs
  | [], _, h => h
  | _ :: _, _, ⟨v, r, hv, ha, hr⟩ => ⟨v, r, hv, ha.ext hE, AVsR.ext hE hr⟩
theorem backCv_sound {t : Ty} {x : Ty.D E.S t} {w : Value} {v : Cv E} {fp : List Nat} (hS : Sim cx G S tm W) (ho : OwnE E W G.F t x w fp) (hnd : fp.Nodup) (hfree : ∀ b ∈ fp, Free cx G S b) (hm : MutCv G t v) (hv : ∃ K W2, CvR G K W2 v w) (hids : (ownIds v.cells).Nodup) (hgone : ∀ i ∈ ownIds v.cells, S.h i = none) :
    Sim cx G { S with H := backCv E t x v ++ S.H } tm W ∧ (∀ k, k ∉ fp → Free cx G S k → Free cx G { S with H := backCv E t x v ++ S.H } k) ∧ ∀ i, i ∉ ownIds v.cells → lk (backCv E t x v) i = none := by
  obtain ⟨K, W2, hv⟩ := hv
  cases v with
  | agg xs =>
    cases t with
    | st n =>
      obtain ⟨vs, rfl, ho⟩ := ho
      obtain ⟨vs', he, ha⟩ := hv
      have : vs = vs' := by simpa using he
      subst this
      exact back_sound hS ho hnd hfree hm ⟨K, W2, ha⟩ hids hgone
    | _ => exact hm.elim
  | arr k n xs => cases t <;> exact hm.elim
  | «at» x' =>
    cases t with
    | st n => exact hm.elim
    | slice e t =>
      cases x' with
      | own id =>
        have hv' : w = G.hd id := hv.2.1
        obtain ⟨j1, j2⟩ := hS.backRow (id := id) (hgone id (by simp [Cv.cells, ownIds])) hm (by rw [← hv']; exact ho) hfree
        refine ⟨j1, j2, fun i hi => ?_⟩
        simp only [Cv.cells, ownIds, List.mem_cons, not_or] at hi
        simp only [backCv, lk_cons]
        rw [if_neg (fun e => hi.1 e.symm)]
        rfl
      | nils => exact ⟨hS, fun _ _ h => h, fun _ _ => rfl⟩
      | _ => cases hm
    | int k => exact ⟨hS, fun _ _ h => h, fun _ _ => rfl⟩
    | bool => exact ⟨hS, fun _ _ h => h, fun _ _ => rfl⟩
    | str => exact ⟨hS, fun _ _ h => h, fun _ _ => rfl⟩
theorem outp_le : ∀ (ps : List Par) (o : OT E ps) (vs : List (AV E)) (fr : Nat), fr ≤ (outp E ps o vs fr).2
  | [], _, _, _ => Nat.le_refl _
  | .val _ :: ps, o, v :: vs, fr => outp_le ps o.2 vs fr
  | .clo _ _ :: ps, o, v :: vs, fr => outp_le ps o.2 vs fr
  | .mut t :: ps, o, v :: vs, fr => by
    cases v with
    | c v => exact outp_le ps o.2 vs fr
    | _ => exact Nat.le_refl _
  | .box n :: ps, o, v :: vs, fr => by
    cases v with
    | c v =>
      cases v with
      | «at» x =>
        cases x with
        | ptr id off =>
          cases off with
          | zero => exact Nat.le_trans (newAts_le _ _ fr) (outp_le ps o.2 vs _)
          | succ _ => exact Nat.le_refl _
        | _ => exact Nat.le_refl _
      | _ => exact Nat.le_refl _
    | _ => exact Nat.le_refl _
  | .val _ :: _, _, [], _ => Nat.le_refl _
  | .clo _ _ :: _, _, [], _ => Nat.le_refl _
  | .mut _ :: _, _, [], _ => Nat.le_refl _
  | .box _ :: _, _, [], _ => Nat.le_refl _
theorem Ext.at {K K' : Nat → Prop} (h : Ext G K W G' K' W') (W2 : World) : Ext G K W2 G' K' W2 := ⟨h.loc, h.hd, h.ln, h.sz, h.K, h.F, fun _ _ => rfl⟩
theorem not_fresh {fr en i : Nat} (hk : S.k i) (hnew : ∀ k, fr ≤ k → k < en → lk S.H k = none) : i < fr ∨ en ≤ i := by
  by_cases h : fr ≤ i ∧ i < en
  · have := hnew i h.1 h.2
    unfold St.k at hk
    rw [this] at hk; cases hk
  · omega
theorem app3 {α : Type} (a b c : List α) : (a ++ b) ++ c = a ++ (b ++ c) := List.append_assoc a b c
theorem outp_sound : ∀ {ps : List Par} {o : OT E ps} {vs : List (AV E)} {ws : List Value} {fp m : List Nat} {fr : Nat} {G : Gh} {S : St E}, (hS : Sim cx G S tm W) → OutPs E W G.F ps o ws fp → fp.Nodup → (∀ b ∈ fp, Free cx G S b) → MutPs G S.k ps vs m → (∃ W2, AVsR G S.k W2 vs ws) → m.Nodup → (∀ i ∈ m, S.h i = none ∧ S.k i) →
    (∀ k, fr ≤ k → k < (outp E ps o vs fr).2 → lk S.H k = none) →
    ∃ G', Sim cx G' { S with H := (outp E ps o vs fr).1 ++ S.H } tm W ∧ Ext G S.k W G' (St.k { S with H := (outp E ps o vs fr).1 ++ S.H }) W ∧ G'.F = G.F ∧ (∀ k, k ∉ fp → Free cx G S k → Free cx G' { S with H := (outp E ps o vs fr).1 ++ S.H } k) ∧
      ∀ i, i ∉ m → (i < fr ∨ (outp E ps o vs fr).2 ≤ i) → lk (outp E ps o vs fr).1 i = none
  | [], _, _, _, _, _, _, G, S, hS, _, _, _, _, _, _, _, _ => ⟨G, hS, Ext.refl _ _ _, rfl, fun _ _ h => h, fun _ _ _ => rfl⟩
  | .val t :: ps, o, vs, ws, fp, m, fr, G, S, hS, ⟨w, ws', f1, f2, hw, hf, ho1, ho⟩, hnd, hfree, ⟨v, vs', hv, hm⟩, ⟨W2, ha⟩, hmn, hg, hnew => by
    subst hv hw hf
    obtain ⟨_, _, he, _, ha⟩ := ha
    cases he
    obtain rfl := ho1
    exact outp_sound (ps := ps) hS ho hnd hfree hm ⟨W2, ha⟩ hmn hg hnew
  | .clo f caps :: ps, o, vs, ws, fp, m, fr, G, S, hS, ⟨w, ws', f1, f2, hw, hf, ho1, ho⟩, hnd, hfree, ⟨v, vs', hv, hm⟩, ⟨W2, ha⟩, hmn, hg, hnew => by
    subst hv hw hf
    obtain ⟨_, _, he, _, ha⟩ := ha
    cases he
    obtain rfl := ho1
    exact outp_sound (ps := ps) hS ho hnd hfree hm ⟨W2, ha⟩ hmn hg hnew
  | .mut t :: ps, o, vs, ws, fp, m, fr, G, S, hS, ⟨w, ws', f1, f2, hw, hf, ho1, ho⟩, hnd, hfree, ⟨v, vs', m', hv, hme, hmc, hm⟩, ⟨W2, ha⟩, hmn, hg, hnew => by
    subst hv hw hf hme
    obtain ⟨_, _, he, hav, ha⟩ := ha
    cases he
    obtain ⟨hn1, hn2, hdis⟩ := List.nodup_append.1 hnd
    obtain ⟨hm1, hm2, hmd⟩ := List.nodup_append.1 hmn
    obtain ⟨G1, i1, i2, i3, i4, i5⟩ := outp_sound (ps := ps) hS ho hn2 (fun b hb => hfree b (by simp [hb])) hm ⟨W2, ha⟩ hm2 (fun i hi => hg i (by simp [hi])) hnew
    have hk : ∀ i ∈ ownIds v.cells, S.k i := fun i hi => (hg i (by simp [hi])).2
    have hfr : ∀ i ∈ ownIds v.cells, i < fr ∨ (outp E ps o.2 vs' fr).2 ≤ i := fun i hi => not_fresh (hk i hi) hnew
    have hmc' : MutPs G1 _ [.mut t] [.c v] (ownIds v.cells) := MutPs.ext i2 hk ⟨v, [], [], rfl, by simp, hmc, rfl⟩
    obtain ⟨v', r', m'', hv', hm'', hmc', _⟩ := hmc'
    cases hv'
    obtain ⟨j1, j2, j3⟩ := backCv_sound (v := v) i1 (by rw [i3]; exact ho1) hn1 (fun b hb => i4 b (fun h2 => hdis b hb b h2 rfl) (hfree b (by simp [hb]))) hmc' ⟨_, W2, CvR.ext (i2.at W2) hav⟩ hm1 (fun i hi => h_append_none (i5 i (fun h => hmd i hi i h rfl) (hfr i hi)) (hg i (by simp [hi])).1)
    simp only [outp]
    rw [app3]
    refine ⟨G1, j1, i2.trans ext_app, i3, fun k hk hf => j2 k (fun h => hk (by simp [h])) (i4 k (fun h => hk (by simp [h])) hf), fun i hi hlt => ?_⟩
    simp only [List.mem_append, not_or] at hi
    rw [lk_append, j3 i hi.1]
    exact i5 i hi.2 hlt
  | .box n :: ps, o, vs, ws, fp, m, fr, G, S, hS, ⟨w, ws', f1, f2, hw, hf, ho1, ho⟩, hnd, hfree, ⟨id, vs', m1, m', hv, hme, hid, hm⟩, ⟨W2, ha⟩, hmn, hg, hnew => by
    subst hv hw hf hme
    obtain ⟨_, _, he, hav, ha⟩ := ha
    cases he
    obtain ⟨hn1, hn2, hdis⟩ := List.nodup_append.1 hnd
    obtain ⟨hm0, hm1⟩ := List.nodup_cons.1 hmn
    obtain ⟨_, hm2, hmd⟩ := List.nodup_append.1 hm1
    have le1 := newAts_le (E.fl n) (E.opn n o.1) fr
    have le2 := outp_le ps o.2 vs' (newAts E (E.fl n) (E.opn n o.1) fr).2.2
    simp only [outp] at hnew ⊢
    obtain ⟨G1, i1, i2, i3, i4, i5⟩ := outp_sound (ps := ps) (fr := (newAts E (E.fl n) (E.opn n o.1) fr).2.2) hS ho hn2 (fun b hb => hfree b (by simp [hb])) hm ⟨W2, ha⟩ hm2 (fun i hi => hg i (by simp [hi])) (fun k h1 h2 => hnew k (by omega) h2)
    have hidfr := not_fresh hid hnew
    obtain ⟨g, us, f, rfl, hg1, hg2, rfl⟩ := ho1
    have hgl : g = G.loc id := by have := hav.2; injection this with e; injection e with e; injection e
    obtain ⟨hn3, hn4⟩ := List.nodup_cons.1 hn1
    have hm'k : ∀ k, fr ≤ k → k < (newAts E (E.fl n) (E.opn n o.1) fr).2.2 → k ∉ m' := fun k h1 h2 hk => by
      rcases not_fresh (hg k (by simp [hk])).2 hnew with h | h <;> omega
    obtain ⟨G2, j1, j2, j3, j4, j5⟩ := newAts_sound (fr := fr) (vs := us) (h := E.opn n o.1) i1 (by rw [i3]; exact hg2) hn4 (fun b hb => i4 b (fun h2 => hdis b (by simp [hb]) b h2 rfl) (hfree b (by simp [hb]))) (fun k h1 h2 => by
      show lk (_ ++ S.H) k = none
      rw [lk_append, i5 k (hm'k k h1 h2) (by omega)]
      exact hnew k h1 (by omega))
    have hl1 : lk (outp E ps o.2 vs' (newAts E (E.fl n) (E.opn n o.1) fr).2.2).1 id = none := i5 id (fun h => hm0 (by simp [h])) (by omega)
    have hl2 : lk (newAts E (E.fl n) (E.opn n o.1) fr).2.1 id = none := newAts_key _ _ _ _ (by omega)
    have hgone : St.h { S with H := (newAts E (E.fl n) (E.opn n o.1) fr).2.1 ++ ((outp E ps o.2 vs' (newAts E (E.fl n) (E.opn n o.1) fr).2.2).1 ++ S.H) } id = none :=
      h_append_none (S := { S with H := (outp E ps o.2 vs' (newAts E (E.fl n) (E.opn n o.1) fr).2.2).1 ++ S.H }) hl2 (h_append_none hl1 (hg id (by simp)).1)
    have hloc : G2.loc id = g := by rw [j2.loc id (i2.K id hid), i2.loc id hid, hgl]
    have hfg := j5 g hn3 (i4 g (fun h2 => hdis g (by simp) g h2 rfl) (hfree g (by simp)))
    have hoc : ∀ k, Occ (E := E) G2 id (.box n (newAts E (E.fl n) (E.opn n o.1) fr).1) k → k = g := fun k h => (show k = G2.loc id from h).trans hloc
    have k1 := j1.adopt (id := id) (b := .box n (newAts E (E.fl n) (E.opn n o.1) fr).1) hgone ext_cons rfl ⟨us, by rw [hloc]; exact hg1, AtsR.ext ext_cons j4⟩ rfl (fun k hk => by rw [hoc k hk]; exact hfg)
    refine ⟨G2, ?_, (i2.trans j2).trans ?_, j3.trans i3, fun k hk hf => ?_, fun i hi hlt => ?_⟩
    · simpa using k1
    · have := ext_cons (G := G2) (W := W) (id := id) (b := (.box n (newAts E (E.fl n) (E.opn n o.1) fr).1 : Blk E)) (S := { S with H := (newAts E (E.fl n) (E.opn n o.1) fr).2.1 ++ ((outp E ps o.2 vs' (newAts E (E.fl n) (E.opn n o.1) fr).2.2).1 ++ S.H) })
      simpa using this
    · have h1 := i4 k (fun h => hk (by simp [h])) hf
      have h2 := j5 k (fun h => hk (by simp [h])) h1
      have h3 := h2.cons (id := id) (b := .box n (newAts E (E.fl n) (E.opn n o.1) fr).1) (ext_cons (W := W)) rfl (fun h => hk (by simp [hoc k h]))
      simpa using h3
    · simp only [List.mem_cons, List.mem_append, not_or] at hi
      simp only [List.cons_append, lk_cons]
      rw [if_neg (fun e => hi.1 e.symm), lk_append, newAts_key _ _ _ _ (by omega)]
      exact i5 i hi.2.2 (by omega)
end Mir
