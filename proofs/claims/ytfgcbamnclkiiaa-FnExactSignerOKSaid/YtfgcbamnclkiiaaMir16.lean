/- The mirror machine: results and arguments of a call. -/
import Derived.Test.YtfgcbamnclkiiaaMir15
namespace Mir
set_option linter.unusedVariables false
set_option linter.unusedSimpArgs false
open Go
variable {E : Env} {P : Program} {T : Tb} {cx : Cx} {G G' : Gh} {S : St E} {tm : Array Value} {a : Act} {W W' : World}

theorem newCv_le (t : Ty) (x : Ty.D E.S t) (fr : Nat) : fr ≤ (newCv E t x fr).2.2 := by
  cases t with
  | st n => exact newAts_le _ _ _
  | slice e t => exact Nat.le_succ _
  | _ => exact Nat.le_refl _
theorem newCv_key (t : Ty) (x : Ty.D E.S t) (fr k : Nat) (hk : k < fr ∨ (newCv E t x fr).2.2 ≤ k) : lk (newCv E t x fr).2.1 k = none := by
  cases t with
  | st n => exact newAts_key _ _ _ _ hk
  | slice e t =>
    simp only [newCv] at hk ⊢
    rw [lk_cons, if_neg (by omega)]
    rfl
  | _ => rfl
theorem newCv_sound {t : Ty} {x : Ty.D E.S t} {v : Value} {fp : List Nat} {fr : Nat} (hS : Sim cx G S tm W) (ho : OwnE E W G.F t x v fp) (hnd : fp.Nodup) (hfree : ∀ b ∈ fp, Free cx G S b) (hnew : ∀ k, fr ≤ k → k < (newCv E t x fr).2.2 → lk S.H k = none) :
    ∃ G', Sim cx G' { S with H := (newCv E t x fr).2.1 ++ S.H } tm W ∧ Ext G S.k W G' (St.k { S with H := (newCv E t x fr).2.1 ++ S.H }) W ∧ G'.F = G.F ∧
      CvR G' (St.k { S with H := (newCv E t x fr).2.1 ++ S.H }) W (newCv E t x fr).1 v ∧ ∀ k, k ∉ fp → Free cx G S k → Free cx G' { S with H := (newCv E t x fr).2.1 ++ S.H } k := by
  cases t with
  | st n =>
    obtain ⟨vs, rfl, ho⟩ := ho
    obtain ⟨G', i1, i2, i3, i4, i5⟩ := newAts_sound hS ho hnd hfree hnew
    exact ⟨G', i1, i2, i3, ⟨vs, rfl, i4⟩, i5⟩
  | slice e t =>
    obtain ⟨G', i1, i2, i3, i4, i5⟩ := hS.adoptRow (fr := fr) (hnew fr (Nat.le_refl _) (Nat.lt_succ_self _)) ho hfree
    exact ⟨G', i1, i2, i3, i4, i5⟩
  | int k => exact ⟨G, hS, Ext.refl _ _ _, rfl, ho.1, fun _ _ h => h⟩
  | bool => exact ⟨G, hS, Ext.refl _ _ _, rfl, ho.1, fun _ _ h => h⟩
  | str => exact ⟨G, hS, Ext.refl _ _ _, rfl, ho.1, fun _ _ h => h⟩
theorem newCvs_le : ∀ (ts : List Ty) (h : HT E.S ts) (fr : Nat), fr ≤ (newCvs E ts h fr).2.2
  | [], _, _ => Nat.le_refl _
  | t :: ts, h, fr => Nat.le_trans (newCv_le t h.1 fr) (newCvs_le ts h.2 _)
theorem newCvs_key : ∀ (ts : List Ty) (h : HT E.S ts) (fr k : Nat), (k < fr ∨ (newCvs E ts h fr).2.2 ≤ k) → lk (newCvs E ts h fr).2.1 k = none
  | [], _, _, _, _ => rfl
  | t :: ts, h, fr, k, hk => by
    have h1 := newCv_le t h.1 fr
    have h2 := newCvs_le ts h.2 (newCv E t h.1 fr).2.2
    simp only [newCvs] at hk ⊢
    rw [lk_append, newCv_key t h.1 fr k (by omega)]
    exact newCvs_key ts h.2 _ k (by omega)
theorem newCvs_sound : ∀ {ts : List Ty} {h : HT E.S ts} {vs : List Value} {fp : List Nat} {fr : Nat}, (hS : Sim cx G S tm W) → OwnEs E W G.F ts h vs fp → fp.Nodup → (∀ b ∈ fp, Free cx G S b) → (∀ k, fr ≤ k → k < (newCvs E ts h fr).2.2 → lk S.H k = none) →
    ∃ G', Sim cx G' { S with H := (newCvs E ts h fr).2.1 ++ S.H } tm W ∧ Ext G S.k W G' (St.k { S with H := (newCvs E ts h fr).2.1 ++ S.H }) W ∧ G'.F = G.F ∧
      CvsR G' (St.k { S with H := (newCvs E ts h fr).2.1 ++ S.H }) W (newCvs E ts h fr).1 vs ∧ ∀ k, k ∉ fp → Free cx G S k → Free cx G' { S with H := (newCvs E ts h fr).2.1 ++ S.H } k
  | [], _, _, _, _, hS, ho, _, _, _ => ⟨G, hS, Ext.refl _ _ _, rfl, ho.1, fun _ _ h => h⟩
  | t :: ts, h, vs, fp, fr, hS, ⟨v, r, f1, f2, hv, hfp, ha, hr⟩, hnd, hfree, hnew => by
    subst hfp
    obtain ⟨hn1, hn2, hdis⟩ := List.nodup_append.1 hnd
    have h1 := newCv_le t h.1 fr
    have h2 := newCvs_le ts h.2 (newCv E t h.1 fr).2.2
    simp only [newCvs] at hnew ⊢
    obtain ⟨G1, i1, i2, i3, i4, i5⟩ := newCvs_sound (fr := (newCv E t h.1 fr).2.2) hS hr hn2 (fun b hb => hfree b (by simp [hb])) (fun k h1 h2 => hnew k (by omega) h2)
    obtain ⟨G2, j1, j2, j3, j4, j5⟩ := newCv_sound (fr := fr) i1 (by rw [i3]; exact ha) hn1 (fun b hb => i5 b (fun h2 => hdis b hb b h2 rfl) (hfree b (by simp [hb]))) (fun k h1 h2 => by
      show lk (_ ++ S.H) k = none
      rw [lk_append, newCvs_key ts h.2 _ k (by omega)]; exact hnew k h1 (by omega))
    rw [List.append_assoc]
    exact ⟨G2, j1, i2.trans j2, j3.trans i3, ⟨v, r, hv, j4, CvsR.ext j2 i4⟩, fun k hk hf => j5 k (fun h => hk (by simp [h])) (i5 k (fun h => hk (by simp [h])) hf)⟩

/-! ### Arguments -/
def AVsR (G : Gh) (K : Nat → Prop) (W : World) : List (AV E) → List Value → Prop
  | [], vs => vs = []
  | x :: xs, vs => ∃ v r, vs = v :: r ∧ AVR G K W x v ∧ AVsR G K W xs r
/-- The numbers of the rows in cells. -/
def ownIds : List (At E) → List Nat
  | [] => []
  | .own id :: r => id :: ownIds r
  | _ :: r => ownIds r
theorem ownAll_ids : ∀ {xs : List (At E)} {l l' m : List Nat}, RM.Out S.h (ownAll xs) l m l' → m = ownIds xs ∧ ∀ i ∈ m, ∃ e t ys, S.h i = some (.row e t ys false)
  | [], _, _, _, h => by rw [h.1]; exact ⟨rfl, fun i hi => by cases hi⟩
  | .own id :: xs, _, _, m, h => by
    obtain ⟨b, hb, h⟩ := h
    dsimp only at h
    split at h
    · obtain ⟨m', l1, h1, h⟩ := RM.Out_bind h
      obtain rfl := h.1
      obtain ⟨rfl, h2⟩ := ownAll_ids h1
      refine ⟨rfl, fun i hi => ?_⟩
      rcases List.mem_cons.1 hi with rfl | hi
      · exact ⟨_, _, _, hb⟩
      · exact h2 i hi
    · exact h.elim
  | .int _ _ :: xs, _, _, _, h => ownAll_ids (xs := xs) h
  | .bool _ :: xs, _, _, _, h => ownAll_ids (xs := xs) h
  | .str _ :: xs, _, _, _, h => ownAll_ids (xs := xs) h
  | .nils :: xs, _, _, _, h => ownAll_ids (xs := xs) h
  | .sub _ _ _ :: _, _, _, _, h => h.elim
  | .ro _ _ _ :: _, _, _, _, h => h.elim
  | .dead :: _, _, _, _, h => h.elim
  | .ptr _ _ :: _, _, _, _, h => h.elim
  | .eptr _ _ _ :: _, _, _, _, h => h.elim
  | .undef :: _, _, _, _, h => h.elim
  | .nilp :: _, _, _, _, h => h.elim
theorem ofCv_rov (hS : Sim cx G S tm W) {F : Nat → Prop} (hF : ∀ b, G.F b → F b) {t : Ty} {v : Cv E} {w : Value} (hok : v.cells.all okAt = true) (hv : CvR G S.k W v w) (hi : ∀ x ∈ v.cells, InF G S F x) {l l' : List Nat} {d : Ty.D E.S t} (h : RM.Out S.h (ofCv E t v) l d l') : RoV E W F t d w := by
  obtain ⟨n, hn⟩ := ofCv_sound hS hF hok hv hi h
  cases v with
  | agg xs =>
    cases t with
    | st m =>
      obtain ⟨vs, rfl, hvs⟩ := hv
      exact ⟨vs, n, rfl, by simpa [Value.cells, RoE] using hn⟩
    | _ => exact h.elim
  | arr k n xs => cases t <;> exact h.elim
  | «at» x =>
    cases t with
    | st n => exact h.elim
    | _ =>
      obtain ⟨v', hv', hr⟩ := hn
      have hone : w.cells.toList = [w] := by
        have := AtR.one (K := S.k) hv (by simpa [Cv.cells] using hok)
        cases w <;> first | rfl | (simp [Value.oneCell'] at this)
      rw [hone] at hv'
      cases hv'
      exact ⟨n, hr⟩
theorem ofCvs_rov (hS : Sim cx G S tm W) {F : Nat → Prop} (hF : ∀ b, G.F b → F b) : ∀ {ts : List Ty} {vs : List (Cv E)} {ws : List Value} {l l' : List Nat} {d : HT E.S ts}, (∀ v ∈ vs, v.cells.all okAt = true) → CvsR G S.k W vs ws → (∀ v ∈ vs, ∀ x ∈ v.cells, InF G S F x) → RM.Out S.h (ofCvs E ts vs) l d l' → RoVs E W F ts d ws
  | [], [], _, _, _, _, _, hr, _, h => hr
  | t :: ts, v :: vs, _, _, _, d, hok, ⟨w, r, hw, hv, hr⟩, hi, h => by
    obtain ⟨y, l1, h1, h⟩ := RM.Out_bind h
    obtain ⟨z, l2, h2, h⟩ := RM.Out_bind h
    obtain rfl := h.1
    exact ⟨w, r, hw, ofCv_rov hS hF (hok v (List.mem_cons_self ..)) hv (hi v (List.mem_cons_self ..)) h1, ofCvs_rov hS hF (fun v hv => hok v (List.mem_cons_of_mem _ hv)) hr (fun v hv => hi v (List.mem_cons_of_mem _ hv)) h2⟩
  | [], _ :: _, _, _, _, _, _, _, _, h => h.elim
  | _ :: _, [], _, _, _, _, _, _, _, h => h.elim
theorem ownCv_sound (hS : Sim cx G S tm W) {F : Nat → Prop} (hF : ∀ b, G.F b → F b) {t : Ty} {v : Cv E} {w : Value} {l1 l2 l3 l4 : List Nat} {d : Ty.D E.S t} {m : List Nat} (hv : CvR G S.k W v w) (h1 : RM.Out S.h (ofCv E t v) l1 d l2) (h2 : RM.Out S.h (ownAll v.cells) l3 m l4) :
    ∃ fp, OwnE E W F t d w fp ∧ BlksOf G S m fp ∧ (m.Nodup → fp.Nodup) := by
  cases v with
  | agg xs =>
    cases t with
    | st n =>
      obtain ⟨vs, rfl, hvs⟩ := hv
      obtain ⟨y, l5, h3, h1⟩ := RM.Out_bind h1
      obtain rfl := h1.1
      obtain ⟨fp, i1, i2, i3, _⟩ := ownAll_sound hS hF hvs h3 h2
      exact ⟨fp, ⟨vs, rfl, by rw [E.opn_shut]; exact i1⟩, i2, i3⟩
    | _ => exact h1.elim
  | arr k n xs => cases t <;> exact h1.elim
  | «at» x =>
    have key : ∀ {t : Ty} {d : Ty.D E.S t}, RM.Out S.h (ofAt E t x) l1 d l2 → ∃ fp, OwnA E W F t d w fp ∧ BlksOf G S m fp ∧ (m.Nodup → fp.Nodup) := by
      intro t d h1
      have h3 : RM.Out S.h (ofAts E [t] [x]) l1 (d, ()) l2 := by
        have bind_out : ∀ {α β : Type} {m : RM E α} {f : α → RM E β} {l l1 l2 : List Nat} {x : α} {y : β}, RM.Out S.h m l x l1 → RM.Out S.h (f x) l1 y l2 → RM.Out S.h (m.bind f) l y l2 := by
          intro α β m
          induction m with
          | pure a => rintro f l l1 l2 x y ⟨rfl, rfl⟩ h; exact h
          | fail => intro f l l1 l2 x y h; exact h.elim
          | rd id k ih => rintro f l l1 l2 x y ⟨b, hb, h⟩ h'; exact ⟨b, hb, ih b h h'⟩
          | chk b k ih => rintro f l l1 l2 x y ⟨hb, h⟩ h'; exact ⟨hb, ih h h'⟩
          | call m k ih => rintro f l l1 l2 x y ⟨b, hb, h⟩ h'; exact ⟨b, hb, ih b h h'⟩
        exact bind_out h1 ⟨rfl, rfl⟩
      obtain ⟨fp, ⟨v', r, f1, f2, e1, e2, i1, i4⟩, i2, i3, _⟩ := ownAll_sound (xs := [x]) (vs := [w]) hS hF ⟨w, [], rfl, hv, rfl⟩ h3 h2
      cases e1
      rw [i4.2, List.append_nil] at e2
      subst e2
      exact ⟨fp, i1, i2, i3⟩
    cases t with
    | st n => exact h1.elim
    | _ => exact key h1
theorem BlksOf.disj (hS : Sim cx G S tm W) {m1 m2 f1 f2 : List Nat} (h1 : BlksOf G S m1 f1) (h2 : BlksOf G S m2 f2) (hd : ∀ i ∈ m1, i ∉ m2) : ∀ k ∈ f1, k ∉ f2 := by
  intro k hk hk2
  obtain ⟨i, hi, b, hb, ho⟩ := (h1 k).1 hk
  obtain ⟨j, hj, c, hc, ho'⟩ := (h2 k).1 hk2
  exact hd i hi (hS.inj i j b c k hb hc ho ho' ▸ hj)
theorem BlksOf.nodup (hS : Sim cx G S tm W) {m1 m2 f1 f2 : List Nat} (h1 : BlksOf G S m1 f1) (h2 : BlksOf G S m2 f2) (n1 : m1.Nodup → f1.Nodup) (n2 : m2.Nodup → f2.Nodup) (h : (m1 ++ m2).Nodup) : (f1 ++ f2).Nodup := by
  obtain ⟨a, b, c⟩ := List.nodup_append.1 h
  exact List.nodup_append.2 ⟨n1 a, n2 b, fun x hx y hy e => h1.disj hS h2 (fun i hi hj => c i hi i hj rfl) x hx (e ▸ hy)⟩
theorem frzd_inF (hS : Sim cx G S tm W) {u : Up E} {xs : List (At E)} {l l' : List Nat} (h : RM.Out S.h (frz xs) l u l') {F : Nat → Prop} (hf : ∀ p ∈ u, ∀ k, Occ G p.1 p.2 k → F k) : ∀ x ∈ xs, InF G S F x := fun x hx =>
  Among.inF (frz_list h) (fun id b hl k ho => hf _ (lk_mem hl) k ho) (frz_among hS h x hx)
theorem inp_sound (hS : Sim cx G S tm W) {F : Nat → Prop} (hF : ∀ b, G.F b → F b) : ∀ {ps : List Par} {vs : List (AV E)} {ws : List Value} {l l' : List Nat} {q : Inp E (IT E ps)}, AVsR G S.k W vs ws → RM.Out S.h (inp E ps vs) l q l' → (∀ p ∈ q.u, ∀ k, Occ G p.1 p.2 k → F k) →
    FrzL S q.u ∧ ∃ fp, InPs E W F ps q.x ws fp ∧ BlksOf G S q.m fp ∧ (q.m.Nodup → fp.Nodup) ∧ (∀ i ∈ q.m, ∃ b, S.h i = some b ∧ b.fz = false)
  | [], [], _, _, _, q, hr, h, _ => by
    obtain rfl := h.1
    exact ⟨fun p hp => (by cases hp), [], ⟨hr, rfl⟩, BlksOf.nil, fun _ => List.nodup_nil, fun i hi => (by cases hi)⟩
  | [], _ :: _, _, _, _, _, _, h, _ => h.elim
  | p :: ps, [], _, _, _, _, _, h, _ => by cases p <;> exact h.elim
  | .val t :: ps, v :: vs, _, _, _, q, ⟨w, r, hw, hv, hr⟩, h, hu => by
    cases v with
    | c v =>
      have hb' := RM.Out_bif h; clear h; obtain ⟨hok, h⟩ := hb'
      obtain ⟨d, l1, h1, h⟩ := RM.Out_bind h
      obtain ⟨u, l2, h2, h⟩ := RM.Out_bind h
      obtain ⟨q', l3, h3, h⟩ := RM.Out_bind h
      obtain rfl := h.1
      obtain ⟨i1, fp, i2, i3, i4, i5⟩ := inp_sound hS hF hr h3 (fun p hp => hu p (by simp [hp]))
      refine ⟨fun p hp => ?_, fp, ⟨w, r, [], fp, hw, rfl, ⟨ofCv_rov hS hF hok hv (frzd_inF hS h2 fun p hp => hu p (by simp [hp])) h1, rfl⟩, i2⟩, i3, i4, i5⟩
      rcases List.mem_append.1 hp with hp | hp
      · exact frz_list h2 p hp
      · exact i1 p hp
    | _ => exact h.elim
  | .mut t :: ps, v :: vs, _, _, _, q, ⟨w, r, hw, hv, hr⟩, h, hu => by
    cases v with
    | c v =>
      obtain ⟨d, l1, h1, h⟩ := RM.Out_bind h
      obtain ⟨m, l2, h2, h⟩ := RM.Out_bind h
      obtain ⟨q', l3, h3, h⟩ := RM.Out_bind h
      obtain rfl := h.1
      obtain ⟨i1, fp, i2, i3, i4, i5⟩ := inp_sound hS hF hr h3 hu
      obtain ⟨f1, j1, j2, j3⟩ := ownCv_sound hS hF hv h1 h2
      refine ⟨i1, f1 ++ fp, ⟨w, r, f1, fp, hw, rfl, j1, i2⟩, j2.app i3, fun hn => j2.nodup hS i3 j3 i4 hn, fun i hi => ?_⟩
      rcases List.mem_append.1 hi with hi | hi
      · obtain ⟨e, t, ys, h⟩ := (ownAll_ids h2).2 i hi
        exact ⟨_, h, rfl⟩
      · exact i5 i hi
    | _ => exact h.elim
  | .box n :: ps, v :: vs, _, _, _, q, ⟨w, r, hw, hv, hr⟩, h, hu => by
    have hid : ∃ id, v = .c (.at (.ptr id 0)) := by
      cases v with
      | c v =>
        cases v with
        | «at» x =>
          cases x with
          | ptr id o =>
            cases o with
            | zero => exact ⟨id, rfl⟩
            | succ o => exact h.elim
          | _ => exact h.elim
        | _ => exact h.elim
      | _ => exact h.elim
    obtain ⟨id, rfl⟩ := hid
    obtain ⟨b, hb, h⟩ := h
    dsimp only at h
    split at h
    · rename_i t cells
      have hb' := RM.Out_bif h; clear h; obtain ⟨ht, h⟩ := hb'
      obtain rfl := Nat.eq_of_beq_eq_true ht
      obtain ⟨d, l1, h1, h⟩ := RM.Out_bind h
      obtain ⟨m, l2, h2, h⟩ := RM.Out_bind h
      obtain ⟨q', l3, h3, h⟩ := RM.Out_bind h
      obtain rfl := h.1
      obtain ⟨i1, fp, i2, i3, i4, i5⟩ := inp_sound hS hF hr h3 hu
      obtain ⟨us, hus, hr'⟩ := hS.blks id _ hb
      obtain ⟨f1, j1, j2, j3, j4⟩ := ownAll_sound hS hF hr' h1 h2
      have hself : BlksOf G S [id] [G.loc id] := fun k => by
        constructor
        · intro hk; rw [List.mem_singleton] at hk; exact ⟨id, by simp, _, hb, hk⟩
        · rintro ⟨i, hi, c, hc, ho⟩
          rw [List.mem_singleton] at hi; subst hi
          rw [hb] at hc; cases hc
          simp [show k = G.loc i from ho]
      have hself' := hself.app j2
      refine ⟨i1, (G.loc id :: f1) ++ fp, ⟨w, r, G.loc id :: f1, fp, hw, rfl, ⟨G.loc id, us, f1, hv.2, hus, by rw [E.opn_shut]; exact j1, rfl⟩, i2⟩, hself'.app i3, fun hn => ?_, fun i hi => ?_⟩
      · exact BlksOf.nodup (m1 := id :: m) hS hself' i3 (fun hn => hself.nodup hS j2 (fun _ => by simp) j3 hn) i4 hn
      · rcases List.mem_append.1 hi with hi | hi
        · rcases List.mem_cons.1 hi with rfl | hi
          · exact ⟨_, hb, rfl⟩
          · obtain ⟨e, t, ys, h⟩ := j4 i hi
            exact ⟨_, h, rfl⟩
        · exact i5 i hi
    · exact h.elim
  | .clo f caps :: ps, v :: vs, _, _, _, q, ⟨w, r, hw, hv, hr⟩, h, hu => by
    cases v with
    | clo g cs =>
      have hb' := RM.Out_bif h; clear h; obtain ⟨hok, h⟩ := hb'
      simp only [Bool.and_eq_true, List.all_eq_true] at hok
      obtain rfl := Nat.eq_of_beq_eq_true hok.1
      obtain ⟨d, l1, h1, h⟩ := RM.Out_bind h
      obtain ⟨u, l2, h2, h⟩ := RM.Out_bind h
      obtain ⟨q', l3, h3, h⟩ := RM.Out_bind h
      obtain rfl := h.1
      obtain ⟨i1, fp, i2, i3, i4, i5⟩ := inp_sound hS hF hr h3 (fun p hp => hu p (by simp [hp]))
      obtain ⟨us, hus, hvs⟩ := hv
      refine ⟨fun p hp => ?_, fp, ⟨w, r, [], fp, hw, rfl, ⟨⟨us, hus, ofCvs_rov hS hF (fun v hv => by simpa using hok.2 v hv) hvs (fun v hv x hx => frzd_inF hS h2 (fun p hp => hu p (by simp [hp])) x (List.mem_flatMap.2 ⟨v, hv, hx⟩)) h1⟩, rfl⟩, i2⟩, i3, i4, i5⟩
      rcases List.mem_append.1 hp with hp | hp
      · exact frz_list h2 p hp
      · exact i1 p hp
    | _ => exact h.elim
end Mir
