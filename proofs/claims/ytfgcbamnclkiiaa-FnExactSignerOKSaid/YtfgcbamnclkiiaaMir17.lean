/- The mirror machine: what a call leaves, as the caller sees it. -/
import Derived.Test.YtfgcbamnclkiiaaMir16
namespace Mir
set_option linter.unusedVariables false
set_option linter.unusedSimpArgs false
open Go
variable {E : Env} {P : Program} {T : Tb} {cx : Cx} {G G' : Gh} {S : St E} {tm : Array Value} {a : Act} {W W' : World}

/-- The state behind a call: some rows are gone, some are frozen. -/
theorem Sim.after (hS : Sim cx G S tm W) (U : Up E) (F' : Nat → Prop) (hU : ∀ id b, lk U id = some b → b = .gone ∨ ∃ e t ys f, S.h id = some (.row e t ys f) ∧ b = .row e t ys true)
    (hfrm : Frm cx W') (hF : ∀ b, G.F b → F' b) (hWF : ∀ b, G.F b → W'.heap[b]? = W.heap[b]?) (hlt : ∀ b, F' b → b < W'.heap.size) (hff : ∀ b, F' b → G.F b ∨ cx.W0.heap.size ≤ b ∨ cx.M b)
    (hk : ∀ id b k, St.h { S with H := U ++ S.H } id = some b → Occ G id b k → W'.heap[k]? = W.heap[k]? ∧ (b.fz = true → F' k) ∧ (b.fz = false → ¬ F' k)) :
    Sim cx { G with F := F' } { S with H := U ++ S.H } tm W' ∧ Ext G S.k W { G with F := F' } (St.k { S with H := U ++ S.H }) W' := by
  have hE : Ext G S.k W { G with F := F' } (St.k { S with H := U ++ S.H }) W' := ⟨fun _ _ => rfl, fun _ _ => rfl, fun _ _ => rfl, fun _ _ => rfl, fun i hi => k_append hi, hF, hWF⟩
  have hh : ∀ id b, St.h { S with H := U ++ S.H } id = some b → ∃ b0, S.h id = some b0 ∧ (b = b0 ∨ ∃ e t ys f, b0 = .row e t ys f ∧ b = .row e t ys true) := by
    intro id b h
    unfold St.h at h
    simp only [lk_append] at h
    cases hu : lk U id with
    | none => rw [hu] at h; exact ⟨b, h, .inl rfl⟩
    | some b' =>
      rw [hu] at h
      rcases hU id b' hu with rfl | ⟨e, t, ys, f, h1, rfl⟩
      · cases h
      · cases h; exact ⟨_, h1, .inr ⟨e, t, ys, f, rfl, rfl⟩⟩
  have ho : ∀ {id b b0}, (b = b0 ∨ ∃ e t ys f, b0 = .row e t ys f ∧ b = .row e t ys true) → ∀ {G : Gh} k, Occ (E := E) G id b k → Occ G id b0 k := by
    rintro id b b0 (rfl | ⟨e, t, ys, f, rfl, rfl⟩) G k h <;> exact h
  refine ⟨⟨hS.sz, fun s v h => (hS.tmps s v h).ext hE, ?_, ?_, ?_, ?_, ?_, hlt, hfrm, fun b hb => hF b (hS.ff.1 b hb), fun b hb => ?_⟩, hE⟩
  · intro id b h
    obtain ⟨b0, h0, hb⟩ := hh id b h
    have := (hS.blks id b0 h0).ext hE (St.h_k h0) (fun k hk' => by
      rcases hb with rfl | ⟨e, t, ys, f, rfl, rfl⟩
      · exact (hk id b k h hk').1
      · exact (hk id _ k h hk').1)
    rcases hb with rfl | ⟨e, t, ys, f, rfl, rfl⟩ <;> exact this
  · intro i j bi bj k hi hj hoi hoj
    obtain ⟨b0, h0, hb⟩ := hh i bi hi
    obtain ⟨c0, k0, hc⟩ := hh j bj hj
    exact hS.inj i j b0 c0 k h0 k0 (ho hb k hoi) (ho hc k hoj)
  · intro id b k h hoc hf
    exact (hk id b k h hoc).2.1 hf
  · intro id b k h hoc hf
    exact (hk id b k h hoc).2.2 hf
  · intro id b k h hoc hf
    obtain ⟨b0, h0, hb⟩ := hh id b h
    rcases hb with rfl | ⟨e, t, ys, f, rfl, rfl⟩
    · exact hS.own id b k h0 hoc hf
    · cases hf
  · rcases hff b hb with h | h
    · exact hS.ff.2 b h
    · exact .inr h

/-! ### Rows written back -/
def MutA (G : Gh) : Ty → At E → Prop
  | .slice e t, .own id => ∃ n, G.ln id = n ∧ G.sz id = tsz E t ∧ ((∃ A, G.hd id = .slice A 0 0 ∧ n = 0) ∨ ∃ cap, G.hd id = .slice (some ⟨G.loc id, 0, none⟩) n cap ∧ 0 < cap)
  | .slice _ _, x => x = .nils
  | _, x => ∀ i, x ≠ .own i
def MutL (G : Gh) : List Ty → List (At E) → Prop
  | [], xs => xs = []
  | t :: ts, xs => ∃ x r, xs = x :: r ∧ MutA G t x ∧ MutL G ts r
theorem MutA.ext {K K' : Nat → Prop} (hE : Ext G K W G' K' W') {t : Ty} {x : At E} (hk : ∀ i, x = .own i → K i) (h : MutA G t x) : MutA G' t x := by
  cases t with
  | slice e t =>
    cases x with
    | own id =>
      have hk := hk id rfl
      obtain ⟨n, h1, h2, h3⟩ := h
      exact ⟨n, by rw [hE.ln id hk]; exact h1, by rw [hE.sz id hk]; exact h2, by rw [hE.hd id hk, hE.loc id hk]; exact h3⟩
    | _ => exact h
  | _ => exact h
theorem MutL.ext {K K' : Nat → Prop} (hE : Ext G K W G' K' W') : ∀ {ts : List Ty} {xs : List (At E)}, (∀ i ∈ ownIds xs, K i) → MutL G ts xs → MutL G' ts xs
  | [], _, _, h => h
  | t :: ts, _, hk, ⟨x, r, hx, ha, hr⟩ => by
    subst hx
    refine ⟨x, r, rfl, ha.ext hE fun i hi => hk i (by subst hi; simp [ownIds]), MutL.ext hE (fun i hi => hk i ?_) hr⟩
    cases x <;> simp [ownIds, hi]
def okOwn : At E → Bool
  | .own _ => true
  | .int _ _ => true
  | .bool _ => true
  | .str _ => true
  | .nils => true
  | _ => false
theorem ownAll_ok : ∀ {xs : List (At E)} {l l' m : List Nat}, RM.Out S.h (ownAll xs) l m l' → ∀ x ∈ xs, okOwn x = true
  | [], _, _, _, _, x, hx => by cases hx
  | y :: xs, l, l', m, h, x, hx => by
    rcases List.mem_cons.1 hx with rfl | hx'
    · cases x <;> first | rfl | exact h.elim
    · cases y <;> try exact h.elim
      case own id =>
        obtain ⟨b, hb, h⟩ := h
        dsimp only at h
        split at h
        · obtain ⟨m', l1, h1, h⟩ := RM.Out_bind h
          exact ownAll_ok h1 x hx'
        · exact h.elim
      all_goals exact ownAll_ok (xs := xs) h x hx'
theorem mutA_of (hS : Sim cx G S tm W) {t : Ty} {x : At E} {l l' : List Nat} {d : Ty.D E.S t} (hok : okOwn x = true) (h : RM.Out S.h (ofAt E t x) l d l') : MutA G t x := by
  cases x with
  | own id =>
    cases t <;> try exact h.elim
    rename_i e t
    obtain ⟨b, hb, h⟩ := h
    dsimp only at h
    split at h
    · rename_i e' t' xs f
      obtain ⟨rfl, rfl, rfl⟩ := castR_sound h
      obtain ⟨b1, b2, b3, hrow⟩ := hS.blks id _ hb
      refine ⟨_, b1, b2, ?_⟩
      rcases hrow with ⟨A, h1, h2⟩ | ⟨cap, cur, d, hhd, hcap, _⟩
      · exact .inl ⟨A, h1, by rw [h2]; rfl⟩
      · exact .inr ⟨cap, hhd, hcap⟩
    · exact h.elim
  | nils => cases t <;> first | exact h.elim | rfl
  | int k n => cases t <;> first | exact h.elim | (intro i h; cases h)
  | bool b => cases t <;> first | exact h.elim | (intro i h; cases h)
  | str s => cases t <;> first | exact h.elim | (intro i h; cases h)
  | _ => cases hok
theorem mutL_of (hS : Sim cx G S tm W) : ∀ {ts : List Ty} {xs : List (At E)} {l l' : List Nat} {d : HT E.S ts}, (∀ x ∈ xs, okOwn x = true) → RM.Out S.h (ofAts E ts xs) l d l' → MutL G ts xs
  | [], [], _, _, _, _, _ => rfl
  | [], _ :: _, _, _, _, _, h => h.elim
  | _ :: _, [], _, _, _, _, h => h.elim
  | t :: ts, x :: xs, _, _, _, hok, h => by
    obtain ⟨y, l1, h1, h⟩ := RM.Out_bind h
    obtain ⟨z, l2, h2, h⟩ := RM.Out_bind h
    exact ⟨x, xs, rfl, mutA_of hS (hok x (List.mem_cons_self ..)) h1, mutL_of hS (fun y hy => hok y (List.mem_cons_of_mem _ hy)) h2⟩
theorem ext_cons {id : Nat} {b : Blk E} : Ext G S.k W G (St.k { S with H := (id, b) :: S.H }) W := ⟨fun _ _ => rfl, fun _ _ => rfl, fun _ _ => rfl, fun _ _ => rfl, fun i hi => k_cons hi, fun _ h => h, fun _ _ => rfl⟩
theorem Sim.backRow (hS : Sim cx G S tm W) {id e : Nat} {t : Ty} {xs : List (Ty.D E.S t)} {fp : List Nat} (hn : S.h id = none) (hm : MutA (E := E) G (.slice e t) (.own id)) (h : OwnA E W G.F (.slice e t) xs (G.hd id) fp) (hfree : ∀ b ∈ fp, Free cx G S b) :
    Sim cx G { S with H := (id, .row e t xs false) :: S.H } tm W ∧ ∀ k, k ∉ fp → Free cx G S k → Free cx G { S with H := (id, .row e t xs false) :: S.H } k := by
  obtain ⟨n, h1, h2, h3⟩ := hm
  rcases h with ⟨A, hv, rfl, rfl⟩ | ⟨g, cap, cur, d, hv, rfl, k1, k2, k3, k4, k5, k6⟩
  · have hno : ∀ k, ¬ Occ (E := E) G id (.row e t [] false) k := fun k h => by have := h.2; rw [hv] at this; simp [capOf] at this
    refine ⟨hS.adopt hn ext_cons rfl ⟨?_, h2, tsz_pos E t, .inl ⟨A, hv, rfl⟩⟩ rfl (fun k hk => (hno k hk).elim), fun k _ hf => hf.cons (ext_cons (W := W)) rfl (hno k)⟩
    rcases h3 with ⟨_, _, h3⟩ | ⟨cap, h3, h4⟩
    · rw [h1, h3]; rfl
    · rw [hv] at h3; cases h3; omega
  · rcases h3 with ⟨A, h3, _⟩ | ⟨cap', h3, h4⟩
    · rw [hv] at h3; injection h3; omega
    · rw [hv] at h3
      have e1 : g = G.loc id := by injection h3 with e1 e2 e3; injection e1 with e1; injection e1
      have e2 : xs.length = n := by injection h3
      have e3 : cap = cap' := by injection h3
      subst e1 e3
      rw [← e2] at h1
      have hoc : ∀ k, Occ (E := E) G id (.row e t xs false) k → k = G.loc id := fun k h => h.1
      refine ⟨hS.adopt hn ext_cons rfl ⟨h1, h2, tsz_pos E t, .inr ⟨cap, cur, d, hv, k1, k2, k3, k4, k5, k6⟩⟩ rfl (fun k hk => hfree k (by simp [hoc k hk])), fun k hk hf => hf.cons (ext_cons (W := W)) rfl fun h => hk (by simp [hoc k h])⟩
theorem h_append_none {U : Up E} {i : Nat} (hl : lk U i = none) (h : S.h i = none) : St.h { S with H := U ++ S.H } i = none := by
  unfold St.h at *
  simp only [lk_append, hl]
  exact h
theorem ext_app {U : Up E} : Ext G S.k W G (St.k { S with H := U ++ S.H }) W := ⟨fun _ _ => rfl, fun _ _ => rfl, fun _ _ => rfl, fun _ _ => rfl, fun i hi => k_append hi, fun _ h => h, fun _ _ => rfl⟩
theorem back_sound : ∀ {ts : List Ty} {h : HT E.S ts} {vs : List Value} {fp : List Nat} {xs : List (At E)}, (hS : Sim cx G S tm W) → OwnL E W G.F ts h vs fp → fp.Nodup → (∀ b ∈ fp, Free cx G S b) → MutL G ts xs → (∃ K W2, AtsR G K W2 xs vs) → (ownIds xs).Nodup → (∀ i ∈ ownIds xs, S.h i = none) →
    Sim cx G { S with H := backAts E ts h xs ++ S.H } tm W ∧ (∀ k, k ∉ fp → Free cx G S k → Free cx G { S with H := backAts E ts h xs ++ S.H } k) ∧ ∀ i, i ∉ ownIds xs → lk (backAts E ts h xs) i = none
  | [], _, _, _, xs, hS, _, _, _, hm, _, _, _ => by
    rw [MutL] at hm; subst hm
    exact ⟨hS, fun _ _ h => h, fun _ _ => rfl⟩
  | t :: ts, h, vs, fp, xs, hS, ⟨v, r, f1, f2, hv, hfp, ha, hr⟩, hnd, hfree, ⟨x, r', hx, hma, hmr⟩, ⟨K, W2, hat⟩, hids, hgone => by
    subst hfp hx hv
    obtain ⟨v', r2, hv', hxa, hxr⟩ := hat
    cases hv'
    obtain ⟨hn1, hn2, hdis⟩ := List.nodup_append.1 hnd
    have hsub : ∀ i ∈ ownIds r', i ∈ ownIds (x :: r') := fun i hi => by cases x <;> simp [ownIds, hi]
    have hids' : (ownIds r').Nodup := by
      cases x <;> first | exact hids | exact (List.nodup_cons.1 hids).2
    obtain ⟨i1, i2, i3⟩ := back_sound hS hr hn2 (fun b hb => hfree b (by simp [hb])) hmr ⟨K, W2, hxr⟩ hids' (fun i hi => hgone i (hsub i hi))
    have skip : backAts E (t :: ts) h (x :: r') = backAts E ts h.2 r' → f1 = [] → Sim cx G { S with H := backAts E (t :: ts) h (x :: r') ++ S.H } tm W ∧ (∀ k, k ∉ f1 ++ f2 → Free cx G S k → Free cx G { S with H := backAts E (t :: ts) h (x :: r') ++ S.H } k) ∧ ∀ i, i ∉ ownIds (x :: r') → lk (backAts E (t :: ts) h (x :: r')) i = none := by
      intro heq hf1
      rw [heq]
      exact ⟨i1, fun k hk => i2 k (by simp at hk; exact hk.2), fun i hi => i3 i fun h => hi (hsub i h)⟩
    cases t with
    | slice e t =>
      cases x with
      | own id =>
        obtain ⟨hn3, hn4⟩ := List.nodup_cons.1 hids
        obtain ⟨j1, j2⟩ := i1.backRow (id := id) (h_append_none (i3 id hn3) (hgone id (by simp [ownIds]))) hma (by rw [← hxa.2.1]; exact ha) (fun b hb => i2 b (fun h2 => hdis b hb b h2 rfl) (hfree b (by simp [hb])))
        refine ⟨j1, fun k hk hf => j2 k (fun h => hk (by simp [h])) (i2 k (fun h => hk (by simp [h])) hf), fun i hi => ?_⟩
        simp only [ownIds, List.mem_cons, not_or] at hi
        simp only [backAts, lk_cons]
        rw [if_neg (fun e => hi.1 e.symm)]
        exact i3 i hi.2
      | nils =>
        obtain ⟨A, rfl⟩ := hxa
        refine skip rfl ?_
        rcases ha with ⟨_, _, _, h⟩ | ⟨g, cap, cur, d, hv, _, h, _⟩
        · exact h
        · injection hv with _ _ e; omega
      | _ => cases hma
    | int k => exact skip (by cases x <;> rfl) ha.2
    | bool => exact skip (by cases x <;> rfl) ha.2
    | str => exact skip (by cases x <;> rfl) ha.2
    | st n => exact ha.elim
end Mir
