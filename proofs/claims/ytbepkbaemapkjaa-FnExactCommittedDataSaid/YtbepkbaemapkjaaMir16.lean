/- The mirror machine: results and arguments of a call. -/
import Derived.Test.YtbepkbaemapkjaaMir15
namespace Mir
set_option linter.unusedVariables false
set_option linter.unusedSimpArgs false
open Go
variable {E : Env} {P : Program} {T : Tb} {cx : Cx} {G G' : Gh} {S : St E} {tm : Array Value} {a : Act} {W W' : World}

/-! ### New boxes -/
theorem boxEnt_key (dp : Bool) (b n : Nat) (x : E.S n) (id k : Nat) (h : k < id ∨ (newAts E dp (E.fl n) (E.opn n x) (id + 1)).2.2 ≤ k) : lk ((id, Blk.box b (newAts E dp (E.fl n) (E.opn n x) (id + 1)).1) :: (newAts E dp (E.fl n) (E.opn n x) (id + 1)).2.1) k = none := by
  have := newAts_le dp (E.fl n) (E.opn n x) (id + 1)
  rw [lk_cons, if_neg (by omega)]
  exact newAts_key dp _ _ _ k (by omega)
theorem boxEnt_sound (hS : Sim cx G S tm W) {dp : Bool} {b n : Nat} {x : E.S n} {v : Value} {fp : List Nat} {id : Nat} (h : BoxV E W G.F dp b n x v fp) (hnd : fp.Nodup) (hfree : ∀ b ∈ fp, Free cx G S b) (hnew : ∀ k, id ≤ k → k < (newAts E dp (E.fl n) (E.opn n x) (id + 1)).2.2 → lk S.H k = none) :
    ∃ G', Sim cx G' { S with H := ((id, Blk.box b (newAts E dp (E.fl n) (E.opn n x) (id + 1)).1) :: (newAts E dp (E.fl n) (E.opn n x) (id + 1)).2.1) ++ S.H } tm W ∧ Ext G S.k W G' (St.k { S with H := ((id, Blk.box b (newAts E dp (E.fl n) (E.opn n x) (id + 1)).1) :: (newAts E dp (E.fl n) (E.opn n x) (id + 1)).2.1) ++ S.H }) W ∧ G'.F = G.F ∧
      AtR (E := E) G' (St.k { S with H := ((id, Blk.box b (newAts E dp (E.fl n) (E.opn n x) (id + 1)).1) :: (newAts E dp (E.fl n) (E.opn n x) (id + 1)).2.1) ++ S.H }) W (.ptr id 0) v ∧ ∀ k, k ∉ fp → Free cx G S k → Free cx G' { S with H := ((id, Blk.box b (newAts E dp (E.fl n) (E.opn n x) (id + 1)).1) :: (newAts E dp (E.fl n) (E.opn n x) (id + 1)).2.1) ++ S.H } k := by
  obtain ⟨g, us, f, rfl, hg1, hg2, rfl⟩ := h
  obtain ⟨hn3, hn4⟩ := List.nodup_cons.1 hnd
  have le1 := newAts_le dp (E.fl n) (E.opn n x) (id + 1)
  obtain ⟨G2, j1, j2, j3, j4, j5⟩ := newAts_sound (dp := dp) (fr := id + 1) (vs := us) (h := E.opn n x) hS hg2 hn4 (fun b hb => hfree b (by simp [hb])) (fun k h1 h2 => hnew k (by omega) (by omega))
  have hkey := newAts_key dp (E.fl n) (E.opn n x) (id + 1) id (by omega)
  generalize newAts E dp (E.fl n) (E.opn n x) (id + 1) = q at *
  have hnone : lk (q.2.1 ++ S.H) id = none := by
    rw [lk_append, hkey]; exact hnew id (Nat.le_refl _) (by omega)
  have hfg := j5 g hn3 (hfree g (by simp))
  have hE : Ext G2 _ W (G2.add id g undef 0 0) (St.k { S with H := (id, (.box b q.1 : Blk E)) :: (q.2.1 ++ S.H) }) W :=
    Gh.add_ext (not_k (S := { S with H := q.2.1 ++ S.H }) hnone) (fun i hi => k_cons hi) fun _ _ => rfl
  have hoc : ∀ k, Occ (E := E) (G2.add id g undef 0 0) id (.box b q.1) k → k = g := fun k h => (show k = (G2.add id g undef 0 0).loc id from h).trans (updf_same _ _ _)
  have k1 := j1.adopt (id := id) (b := .box b q.1) (by unfold St.h; rw [hnone]) hE rfl ⟨us, by rw [show (G2.add id g undef 0 0).loc id = g from updf_same _ _ _]; exact hg1, AtsR.ext hE j4⟩ rfl (fun k hk => by rw [hoc k hk]; exact hfg)
  exact ⟨_, k1, j2.trans hE, j3, ⟨k_cons_self (S := { S with H := q.2.1 ++ S.H }), by rw [show (G2.add id g undef 0 0).loc id = g from updf_same _ _ _]⟩, fun k hk hf => (j5 k (fun h => hk (by simp [h])) hf).cons j1 hE rfl (fun h => hk (by simp [hoc k h]))⟩
theorem newCv_le (dp : Bool) (t : Ty) (x : Ty.D E.S t) (fr : Nat) : fr ≤ (newCv E dp t x fr).2.2 := by
  cases t with
  | st n => exact newAts_le _ _ _ _
  | slice e t => exact Nat.le_of_lt (mkRow_le _ _ _ _ _)
  | pbx b n => exact Nat.le_trans (Nat.le_succ _) (newAts_le dp _ _ (fr + 1))
  | _ => exact Nat.le_refl _
theorem newCv_key (dp : Bool) (t : Ty) (x : Ty.D E.S t) (fr k : Nat) (hk : k < fr ∨ (newCv E dp t x fr).2.2 ≤ k) : lk (newCv E dp t x fr).2.1 k = none := by
  cases t with
  | st n => exact newAts_key _ _ _ _ _ hk
  | slice e t => exact mkRow_key _ _ _ _ _ _ hk
  | pbx b n => exact boxEnt_key dp b n x fr k hk
  | _ => rfl
theorem newCv_sound {dp : Bool} {t : Ty} {x : Ty.D E.S t} {v : Value} {fp : List Nat} {fr : Nat} (hS : Sim cx G S tm W) (ho : OwnE E W G.F dp t x v fp) (hnd : fp.Nodup) (hfree : ∀ b ∈ fp, Free cx G S b) (hnew : ∀ k, fr ≤ k → k < (newCv E dp t x fr).2.2 → lk S.H k = none) :
    ∃ G', Sim cx G' { S with H := (newCv E dp t x fr).2.1 ++ S.H } tm W ∧ Ext G S.k W G' (St.k { S with H := (newCv E dp t x fr).2.1 ++ S.H }) W ∧ G'.F = G.F ∧
      CvR G' (St.k { S with H := (newCv E dp t x fr).2.1 ++ S.H }) W (newCv E dp t x fr).1 v ∧ ∀ k, k ∉ fp → Free cx G S k → Free cx G' { S with H := (newCv E dp t x fr).2.1 ++ S.H } k := by
  cases t with
  | st n =>
    obtain ⟨vs, rfl, ho⟩ := ho
    obtain ⟨G', i1, i2, i3, i4, i5⟩ := newAts_sound hS ho hnd hfree hnew
    exact ⟨G', i1, i2, i3, ⟨vs, rfl, i4⟩, i5⟩
  | slice e t => exact mkRow_sound hS ho hfree hnew
  | rsl e t =>
    obtain ⟨⟨d, hd⟩, _⟩ := ho
    exact ⟨G, hS, Ext.refl _ _ _, rfl, ⟨d, hd⟩, fun _ _ h => h⟩
  | arr k n => exact ⟨G, hS, Ext.refl _ _ _, rfl, ho.1, fun _ _ h => h⟩
  | int k => exact ⟨G, hS, Ext.refl _ _ _, rfl, ho.1, fun _ _ h => h⟩
  | bool => exact ⟨G, hS, Ext.refl _ _ _, rfl, ho.1, fun _ _ h => h⟩
  | str => exact ⟨G, hS, Ext.refl _ _ _, rfl, ho.1, fun _ _ h => h⟩
  | pbx b n => exact boxEnt_sound hS ho hnd hfree hnew
theorem newCvs_le (dp : Bool) : ∀ (ts : List Ty) (h : HT E.S ts) (fr : Nat), fr ≤ (newCvs E dp ts h fr).2.2
  | [], _, _ => Nat.le_refl _
  | t :: ts, h, fr => Nat.le_trans (newCv_le dp t h.1 fr) (newCvs_le dp ts h.2 _)
theorem newCvs_key (dp : Bool) : ∀ (ts : List Ty) (h : HT E.S ts) (fr k : Nat), (k < fr ∨ (newCvs E dp ts h fr).2.2 ≤ k) → lk (newCvs E dp ts h fr).2.1 k = none
  | [], _, _, _, _ => rfl
  | t :: ts, h, fr, k, hk => by
    have h1 := newCv_le dp t h.1 fr
    have h2 := newCvs_le dp ts h.2 (newCv E dp t h.1 fr).2.2
    simp only [newCvs] at hk ⊢
    rw [lk_append, newCv_key dp t h.1 fr k (by omega)]
    exact newCvs_key dp ts h.2 _ k (by omega)
theorem newCvs_sound {dp : Bool} : ∀ {ts : List Ty} {h : HT E.S ts} {vs : List Value} {fp : List Nat} {fr : Nat}, (hS : Sim cx G S tm W) → OwnEs E W G.F dp ts h vs fp → fp.Nodup → (∀ b ∈ fp, Free cx G S b) → (∀ k, fr ≤ k → k < (newCvs E dp ts h fr).2.2 → lk S.H k = none) →
    ∃ G', Sim cx G' { S with H := (newCvs E dp ts h fr).2.1 ++ S.H } tm W ∧ Ext G S.k W G' (St.k { S with H := (newCvs E dp ts h fr).2.1 ++ S.H }) W ∧ G'.F = G.F ∧
      CvsR G' (St.k { S with H := (newCvs E dp ts h fr).2.1 ++ S.H }) W (newCvs E dp ts h fr).1 vs ∧ ∀ k, k ∉ fp → Free cx G S k → Free cx G' { S with H := (newCvs E dp ts h fr).2.1 ++ S.H } k
  | [], _, _, _, _, hS, ho, _, _, _ => ⟨G, hS, Ext.refl _ _ _, rfl, ho.1, fun _ _ h => h⟩
  | t :: ts, h, vs, fp, fr, hS, ⟨v, r, f1, f2, hv, hfp, ha, hr⟩, hnd, hfree, hnew => by
    subst hfp
    obtain ⟨hn1, hn2, hdis⟩ := List.nodup_append.1 hnd
    have h1 := newCv_le dp t h.1 fr
    have h2 := newCvs_le dp ts h.2 (newCv E dp t h.1 fr).2.2
    simp only [newCvs] at hnew ⊢
    obtain ⟨G1, i1, i2, i3, i4, i5⟩ := newCvs_sound (fr := (newCv E dp t h.1 fr).2.2) hS hr hn2 (fun b hb => hfree b (by simp [hb])) (fun k h1 h2 => hnew k (by omega) h2)
    obtain ⟨G2, j1, j2, j3, j4, j5⟩ := newCv_sound (fr := fr) i1 (by rw [i3]; exact ha) hn1 (fun b hb => i5 b (fun h2 => hdis b hb b h2 rfl) (hfree b (by simp [hb]))) (fun k h1 h2 => by
      show lk (_ ++ S.H) k = none
      rw [lk_append, newCvs_key dp ts h.2 _ k (by omega)]; exact hnew k h1 (by omega))
    rw [List.append_assoc]
    exact ⟨G2, j1, i2.trans j2, j3.trans i3, ⟨v, r, hv, j4, CvsR.ext j2 i4⟩, fun k hk hf => j5 k (fun h => hk (by simp [h])) (i5 k (fun h => hk (by simp [h])) hf)⟩

/-! ### Arguments -/
def AVsR (G : Gh) (K : Nat → Prop) (W : World) : List (AV E) → List Value → Prop
  | [], vs => vs = []
  | x :: xs, vs => ∃ v r, vs = v :: r ∧ AVR G K W x v ∧ AVsR G K W xs r
/-- What may be read: F has the blocks of these rows and boxes. -/
structure Reads (G : Gh) (S : St E) (F : Nat → Prop) (u : Up E) (b : List Nat) : Prop where
  all : ∀ k, G.F k → F k
  us : ∀ id c, (lk u id).isSome = true → S.h id = some c → ∀ k, Occ G id c k → F k
  bs : ∀ id ∈ b, ∀ c, S.h id = some c → ∀ k, Occ G id c k → F k
theorem Reads.left {F : Nat → Prop} {u v : Up E} {b c : List Nat} (h : Reads G S F (u ++ v) (b ++ c)) : Reads G S F u b :=
  ⟨h.all, fun id d hl => h.us id d (by
    rw [lk_append]
    cases hl' : lk u id with
    | some x => rfl
    | none => rw [hl'] at hl; cases hl), fun id hi => h.bs id (by simp [hi])⟩
theorem Reads.right {F : Nat → Prop} {u v : Up E} {b c : List Nat} (h : Reads G S F (u ++ v) (b ++ c)) : Reads G S F v c :=
  ⟨h.all, fun id d hl => h.us id d (by
    rw [lk_append]
    cases hl' : lk u id with
    | some x => rfl
    | none => exact hl), fun id hi => h.bs id (by simp [hi])⟩
theorem ofCells_sound (hS : Sim cx G S tm W) {F : Nat → Prop} (hF : ∀ b, G.F b → F b) {t : Ty} {xs : List (At E)} {vs : List Value} (hx : AtsR G S.k W xs vs) (hi : ∀ x ∈ xs, InF G S F x) {l l' : List Nat} {d : Ty.D E.S t} (h : RM.Out S.h (ofCells E t xs) l d l') : ∃ n, RoE E (RoA E W F n) t d vs := by
  unfold ofCells at h
  split at h
  · obtain ⟨y, l1, h1, h⟩ := RM.Out_bind h
    obtain rfl := h.1
    obtain ⟨m, hm⟩ := ofAts_sound hS hF hx hi h1
    exact ⟨m, by show RoL E _ _ (E.opn _ (E.shut _ y)) _; rw [E.opn_shut]; exact hm⟩
  · rename_i x hne
    obtain ⟨v, r, hv, ha, hr⟩ := hx
    rw [AtsR] at hr
    subst hr
    obtain ⟨m, hm⟩ := ofAt_sound hS hF ha (hi x (by simp)) h
    refine ⟨m, ?_⟩
    cases t with
    | st n => exact absurd rfl (hne n)
    | _ => exact ⟨v, hv, hm⟩
  · exact h.elim
theorem boxCells_sound (hS : Sim cx G S tm W) {F : Nat → Prop} {id : Nat} {b : Blk E} (hb : S.h id = some b) (hF : ∀ k, G.F k → F k) (hbF : ∀ k, Occ G id b k → F k) {t : Ty} {l l' : List Nat} {cs : List (At E)} (h : RM.Out S.h (boxCells E t b) l cs l') :
    ∃ vs : List Value, AtsR G S.k W cs vs ∧ (0 < vs.length → F (G.loc id)) ∧ ∀ (j : Nat) (hj : j < vs.length), W.cell? ⟨G.loc id, j, none⟩ = some vs[j] := by
  have hB := hS.blks id b hb
  unfold boxCells at h
  split at h
  · rename_i t0 cells
    obtain rfl := h.1
    obtain ⟨us, hus, hr⟩ := hB
    refine ⟨us.take (tsz E t), hr.take _, fun _ => hbF _ rfl, fun j hj => ?_⟩
    have hj' : j < us.length := by simp at hj; omega
    have := cell_loc hus 0 _ rfl j
    rw [add_lit, Nat.zero_add] at this
    rw [this]
    simp [hj']
  · rename_i cells
    obtain rfl := h.1
    obtain ⟨us, hr, hf, hc⟩ := hB
    refine ⟨us.take (tsz E t), hr.take _, fun h0 => hF _ (hf (by simp at h0; omega)), fun j hj => ?_⟩
    have hj' : j < us.length := by simp at hj; omega
    rw [hc j hj']
    simp
  · exact h.elim
theorem readBox_sound (hS : Sim cx G S tm W) {F : Nat → Prop} {t : Ty} {id : Nat} {l l' : List Nat} {q : Ty.D E.S t × Up E} (h : RM.Out S.h (readBox E t id) l q l') (hR : Reads G S F q.2 [id]) : FrzL S q.2 ∧ RoP E W F t q.1 (.pointer (some ⟨G.loc id, 0, none⟩)) := by
  obtain ⟨b, hb, h⟩ := h
  obtain ⟨cs, l1, h1, h⟩ := RM.Out_bind h
  obtain ⟨d, l2, h2, h⟩ := RM.Out_bind h
  obtain ⟨u, l3, h3, h⟩ := RM.Out_bind h
  obtain rfl := h.1
  obtain ⟨hfl, ham⟩ := frz_list h3
  obtain ⟨vs, i1, i2, i3⟩ := boxCells_sound hS hb hR.all (hR.bs id (by simp) b hb) h1
  obtain ⟨n, hn⟩ := ofCells_sound hS hR.all i1 (fun x hx => (ham x hx).inF hR.us) h2
  exact ⟨hfl, _, vs, n, rfl, hn, i2, i3⟩
theorem ptr_of {v : AV E} {α : Type} {f : Nat → RM E α} {H : Nat → Option (Blk E)} {l l' : List Nat} {q : α} (h : RM.Out H (match v with | .c (.at (.ptr id 0)) => f id | _ => .fail) l q l') : ∃ id, v = .c (.at (.ptr id 0)) ∧ RM.Out H (f id) l q l' := by
  split at h
  · rename_i id; exact ⟨id, rfl, h⟩
  · exact h.elim
theorem inpCap_ptr {H : Nat → Option (Blk E)} {c : Cap} {v : AV E} {l l' : List Nat} {q : Inp E (c.I E)} (h : RM.Out H (inpCap E c v) l q l') : ∃ id, v = .c (.at (.ptr id 0)) := by
  cases v with
  | c v =>
    cases v with
    | «at» x =>
      cases x with
      | ptr id o =>
        cases o with
        | zero => exact ⟨id, rfl⟩
        | succ o => cases c <;> exact h.elim
      | _ => cases c <;> exact h.elim
    | _ => cases c <;> exact h.elim
  | _ => cases c <;> exact h.elim
theorem inpCap_sound (hS : Sim cx G S tm W) {F : Nat → Prop} {c : Cap} {v : AV E} {w : Value} {l l' : List Nat} {q : Inp E (c.I E)} (hv : AVR G S.k W v w) (h : RM.Out S.h (inpCap E c v) l q l') (hR : Reads G S F q.u q.b) : FrzL S q.u ∧ CapP E W F c q.x w ∧ q.m = [] := by
  obtain ⟨id, rfl⟩ := inpCap_ptr h
  cases c with
  | rb t =>
    obtain ⟨p, l1, h1, h⟩ := RM.Out_bind h
    obtain rfl := h.1
    obtain ⟨i1, i2⟩ := readBox_sound hS h1 hR
    refine ⟨i1, ?_, rfl⟩
    rw [show w = _ from hv.2]
    exact i2
  | rpp t =>
    obtain ⟨b, hb, h⟩ := h
    obtain ⟨j, l1, h1, h⟩ := RM.Out_bind h
    obtain ⟨p, l2, h2, h⟩ := RM.Out_bind h
    obtain rfl := h.1
    obtain ⟨i1, i2⟩ := readBox_sound hS h2 ⟨hR.all, hR.us, fun id hi => hR.bs id (by simp at hi; simp [hi])⟩
    refine ⟨i1, ?_, rfl⟩
    rw [show w = _ from hv.2]
    have hB := hS.blks id b hb
    have hbF := hR.bs id (by simp) b hb
    unfold onePtr at h1
    split at h1
    · rename_i t0 j'
      obtain rfl := h1.1
      obtain ⟨us, hus, hr⟩ := hB
      obtain ⟨u0, r, rfl, ha, _⟩ := hr
      refine ⟨G.loc id, u0, rfl, hbF _ rfl, ?_, ?_⟩
      · have := cell_loc hus 0 _ rfl 0
        rw [add_lit, Nat.zero_add] at this
        rw [this]; rfl
      · rw [show u0 = _ from ha.2]; exact i2
    · rename_i j'
      obtain rfl := h1.1
      obtain ⟨us, hr, hf, hc⟩ := hB
      obtain ⟨u0, r, rfl, ha, _⟩ := hr
      refine ⟨G.loc id, u0, rfl, hR.all _ (hf (by simp)), hc 0 (by simp), ?_⟩
      rw [show u0 = _ from ha.2]; exact i2
    · exact h1.elim
theorem inpCaps_sound (hS : Sim cx G S tm W) {F : Nat → Prop} : ∀ {cs : List Cap} {vs : List (Cv E)} {ws : List Value} {l l' : List Nat} {q : Inp E (CT E cs)}, CvsR G S.k W vs ws → RM.Out S.h (inpCaps E cs vs) l q l' → Reads G S F q.u q.b → FrzL S q.u ∧ CapPs E W F cs q.x ws ∧ q.m = []
  | [], [], _, _, _, q, hr, h, _ => by obtain rfl := h.1; exact ⟨FrzL.nil, hr, rfl⟩
  | [], _ :: _, _, _, _, _, _, h, _ => h.elim
  | _ :: _, [], _, _, _, _, _, h, _ => h.elim
  | c :: cs, v :: vs, _, _, _, q, ⟨w, r, hw, hv, hr⟩, h, hR => by
    obtain ⟨p, l1, h1, h⟩ := RM.Out_bind h
    obtain ⟨q', l2, h2, h⟩ := RM.Out_bind h
    obtain rfl := h.1
    obtain ⟨i1, i2, i3⟩ := inpCap_sound (v := .c v) hS hv h1 hR.left
    obtain ⟨j1, j2, j3⟩ := inpCaps_sound hS hr h2 hR.right
    exact ⟨i1.app j1, ⟨w, r, hw, i2, j2⟩, rfl⟩
theorem frzCv_list {v : Cv E} {l l' : List Nat} {u : Up E} (h : RM.Out S.h (frzCv v) l u l') : FrzL S u ∧ ∀ x ∈ v.cells, Among u x := by
  cases v with
  | «at» x => exact frz_list h
  | agg xs => exact frz_list h
  | arr k n xs =>
    obtain rfl := h.1
    refine ⟨FrzL.nil, fun x hx => ?_⟩
    simp only [Cv.cells, List.mem_map] at hx
    obtain ⟨y, _, rfl⟩ := hx
    trivial
theorem inpP_sound (hS : Sim cx G S tm W) {F : Nat → Prop} {p : Par} {v : AV E} {w : Value} {l l' : List Nat} {q : Inp E (p.I E)} (hv : AVR G S.k W v w) (h : RM.Out S.h (inpP E p v) l q l') (hR : Reads G S F q.u q.b) : FrzL S q.u ∧ ∃ fp, InP E W F p q.x w fp ∧ Hand G S q.m fp := by
  have box : ∀ {dp : Bool} {b n : Nat} {q : Inp E (E.S n)}, RM.Out S.h (match v with
      | .c (.at (.ptr id 0)) => (.rd id fun
        | .box t cells => bif Nat.beq t b then (ofAts E (E.fl n) cells).bind fun h => (ownAll E true dp (E.fl n) cells).bind fun m => .pure ⟨E.shut n h, [], id :: m, []⟩ else .fail
        | _ => .fail)
      | _ => .fail) l q l' → Reads G S F q.u q.b → FrzL S q.u ∧ ∃ fp, BoxV E W F dp b n q.x w fp ∧ Hand G S q.m fp := by
    intro dp b n q h0 hR
    obtain ⟨id, rfl, c, hc, h⟩ := ptr_of h0
    clear h0
    dsimp only at h
    split at h
    · rename_i t cells
      have hb' := RM.Out_bif h; clear h; obtain ⟨ht, h⟩ := hb'
      obtain rfl := Nat.eq_of_beq_eq_true ht
      obtain ⟨d, l1, h1, h⟩ := RM.Out_bind h
      obtain ⟨m, l2, h2, h⟩ := RM.Out_bind h
      obtain rfl := h.1
      obtain ⟨us, hus, hr⟩ := hS.blks id _ hc
      obtain ⟨f, i1, i2⟩ := ownAll_sound hS hR.all hr h1 h2
      refine ⟨FrzL.nil, G.loc id :: f, ⟨G.loc id, us, f, hv.2, hus, by rw [E.opn_shut]; exact i1, rfl⟩, ?_⟩
      exact (Hand.one (fp := [G.loc id]) hc rfl (by simp) (fun k hk => by rw [List.mem_singleton] at hk; exact hk)).app hS i2
    · exact h.elim
  cases p with
  | val t =>
    cases v with
    | c v =>
      have hb' := RM.Out_bif h; clear h; obtain ⟨hok, h⟩ := hb'
      obtain ⟨d, l1, h1, h⟩ := RM.Out_bind h
      obtain ⟨u, l2, h2, h⟩ := RM.Out_bind h
      obtain rfl := h.1
      obtain ⟨hfl, ham⟩ := frzCv_list h2
      exact ⟨hfl, [], ⟨ofCv_rov hS hR.all (okCv_all hok) hv (fun x hx => (ham x hx).inF hR.us) h1, rfl⟩, Hand.nil⟩
    | _ => exact h.elim
  | «mut» dp t =>
    cases v with
    | c v =>
      obtain ⟨d, l1, h1, h⟩ := RM.Out_bind h
      obtain ⟨m, l2, h2, h⟩ := RM.Out_bind h
      obtain rfl := h.1
      obtain ⟨f, i1, i2⟩ := ownCv_sound hS hR.all hv h1 h2
      exact ⟨FrzL.nil, f, i1, i2⟩
    | _ => exact h.elim
  | mov dp t =>
    cases v with
    | c v =>
      obtain ⟨d, l1, h1, h⟩ := RM.Out_bind h
      obtain ⟨m, l2, h2, h⟩ := RM.Out_bind h
      obtain rfl := h.1
      obtain ⟨f, i1, i2⟩ := ownCv_sound hS hR.all hv h1 h2
      exact ⟨FrzL.nil, f, i1, i2⟩
    | _ => exact h.elim
  | box dp b n => exact box (by cases v <;> first | exact h | (rename_i v; cases v <;> first | exact h | (rename_i x; cases x <;> first | exact h | (rename_i id o; cases o <;> exact h)))) hR
  | movb dp b n => exact box (by cases v <;> first | exact h | (rename_i v; cases v <;> first | exact h | (rename_i x; cases x <;> first | exact h | (rename_i id o; cases o <;> exact h)))) hR
  | clo f caps =>
    cases v with
    | clo g cs =>
      have hb' := RM.Out_bif h; clear h; obtain ⟨hfg, h⟩ := hb'
      obtain rfl := Nat.eq_of_beq_eq_true hfg
      obtain ⟨us, hus, hvs⟩ := hv
      obtain ⟨i1, i2, i3⟩ := inpCaps_sound hS hvs h hR
      exact ⟨i1, [], ⟨⟨us, hus, i2⟩, rfl⟩, by rw [i3]; exact Hand.nil⟩
    | _ => exact h.elim
  | cap c =>
    have h : RM.Out S.h (inpCap E c v) l q l' := by cases v <;> exact h
    obtain ⟨i1, i2, i3⟩ := inpCap_sound hS hv h hR
    exact ⟨i1, [], ⟨i2, rfl⟩, by rw [i3]; exact Hand.nil⟩
theorem inp_sound (hS : Sim cx G S tm W) {F : Nat → Prop} : ∀ {ps : List Par} {vs : List (AV E)} {ws : List Value} {l l' : List Nat} {q : Inp E (IT E ps)}, AVsR G S.k W vs ws → RM.Out S.h (inp E ps vs) l q l' → Reads G S F q.u q.b →
    FrzL S q.u ∧ ∃ fp, InPs E W F ps q.x ws fp ∧ Hand G S q.m fp
  | [], [], _, _, _, q, hr, h, _ => by
    obtain rfl := h.1
    exact ⟨FrzL.nil, [], ⟨hr, rfl⟩, Hand.nil⟩
  | [], _ :: _, _, _, _, _, _, h, _ => h.elim
  | p :: ps, [], _, _, _, _, _, h, _ => h.elim
  | p :: ps, v :: vs, _, _, _, q, ⟨w, r, hw, hv, hr⟩, h, hR => by
    obtain ⟨a, l1, h1, h⟩ := RM.Out_bind h
    obtain ⟨q', l2, h2, h⟩ := RM.Out_bind h
    obtain rfl := h.1
    obtain ⟨i1, f1, i2, i3⟩ := inpP_sound hS hv h1 hR.left
    obtain ⟨j1, f2, j2, j3⟩ := inp_sound hS hr h2 hR.right
    exact ⟨i1.app j1, f1 ++ f2, ⟨w, r, f1, f2, hw, rfl, i2, j2⟩, i3.app hS j3⟩
end Mir
