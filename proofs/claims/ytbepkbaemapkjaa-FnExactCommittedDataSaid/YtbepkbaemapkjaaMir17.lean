/- The mirror machine: what a call leaves, as the caller sees it. -/
import Derived.Test.YtbepkbaemapkjaaMir16
namespace Mir
set_option linter.unusedVariables false
set_option linter.unusedSimpArgs false
open Go
variable {E : Env} {P : Program} {T : Tb} {cx : Cx} {G G' : Gh} {S : St E} {tm : Array Value} {a : Act} {W W' : World}

theorem BlkR.ofD {K : Nat → Prop} {id : Nat} {e : Nat} {t : Ty} {xs : List (Ty.D E.S t)} {hid : Nat} (h : BlkR G K W id (.drow e t xs hid)) (hF : ∀ k ∈ G.fp hid, G.F k) : BlkR G K W id (.row e t xs true) := by
  obtain ⟨_, h1, h2, h3, h⟩ := h
  refine ⟨h1, h2, h3, ?_⟩
  rcases h with ⟨A, hA, hn, _⟩ | ⟨cap, cur, d, fps, hhd, hc, hh, i1, i2, i3, hfp, hnd, hr, _⟩
  · exact .inl ⟨A, hA, hn⟩
  · exact .inr ⟨cap, cur, d, hhd, hc, hh, i1, i2, i3, fun i hi => (hr.2 i hi).ro (fun t x v fp hF h => DeepA.ro hF h) (hr.at hi fun k hk => hF k (by rw [hfp]; exact hk))⟩
/-- The state behind a call: some rows are gone, some are frozen. -/
theorem Sim.after (hS : Sim cx G S tm W) (U : Up E) (F' : Nat → Prop) (hU : ∀ id b, lk U id = some b → b = .gone ∨ FrzB S id b)
    (hfrm : Frm cx W') (hF : ∀ b, G.F b → F' b) (hWF : ∀ b, G.F b → W'.heap[b]? = W.heap[b]?) (hlt : ∀ b, F' b → b < W'.heap.size) (hff : ∀ b, F' b → G.F b ∨ cx.W0.heap.size ≤ b ∨ cx.M b)
    (hk : ∀ id b b0 k, St.h { S with H := U ++ S.H } id = some b → S.h id = some b0 → Occ G id b0 k → W'.heap[k]? = W.heap[k]? ∧ (b.fz = true → F' k) ∧ (b.fz = false → ¬ F' k)) :
    Sim cx { G with F := F' } { S with H := U ++ S.H } tm W' ∧ Ext G S.k W { G with F := F' } (St.k { S with H := U ++ S.H }) W' := by
  have hE : Ext G S.k W { G with F := F' } (St.k { S with H := U ++ S.H }) W' := ⟨fun _ _ => rfl, fun _ _ => rfl, fun _ _ => rfl, fun _ _ => rfl, fun _ _ => rfl, fun _ _ => rfl, fun i hi => k_append hi, hF, hWF⟩
  have hh : ∀ id b, St.h { S with H := U ++ S.H } id = some b → ∃ b0, S.h id = some b0 ∧ (b = b0 ∨ FrzB S id b) := by
    intro id b h
    unfold St.h at h
    simp only [lk_append] at h
    cases hu : lk U id with
    | none => rw [hu] at h; exact ⟨b, h, .inl rfl⟩
    | some b' =>
      rw [hu] at h
      rcases hU id b' hu with rfl | hb'
      · cases h
      · obtain ⟨e, t, ys, rfl, h1⟩ := hb'
        cases h
        rcases h1 with ⟨f, h1⟩ | ⟨hid, h1⟩
        · exact ⟨_, h1, .inr ⟨e, t, ys, rfl, .inl ⟨f, h1⟩⟩⟩
        · exact ⟨_, h1, .inr ⟨e, t, ys, rfl, .inr ⟨hid, h1⟩⟩⟩
  have ho : ∀ {id b b0}, S.h id = some b0 → (b = b0 ∨ FrzB S id b) → ∀ k, Occ (E := E) G id b k → Occ G id b0 k := by
    rintro id b b0 h0 (rfl | ⟨e, t, ys, rfl, h1⟩) k h
    · exact h
    · rcases h1 with ⟨f, h1⟩ | ⟨hid, h1⟩
      · rw [h0] at h1; cases h1; exact h
      · rw [h0] at h1; cases h1; exact .inl h
  refine ⟨⟨hS.sz, fun s v h => (hS.tmps s v h).ext hE, ?_, ?_, ?_, ?_, ?_, hlt, hfrm, fun b hb => hF b (hS.ff.1 b hb), fun b hb => ?_⟩, hE⟩
  · intro id b h
    obtain ⟨b0, h0, hb⟩ := hh id b h
    have := (hS.blks id b0 h0).ext hE (St.h_k h0) (fun k hk' => (hk id b b0 k h h0 hk').1)
    rcases hb with rfl | ⟨e, t, ys, rfl, h1⟩
    · exact this
    · rcases h1 with ⟨f, h1⟩ | ⟨hid, h1⟩
      · rw [h0] at h1; cases h1; exact this
      · rw [h0] at h1; cases h1
        exact this.ofD fun k hm => (hk id _ _ k h h0 (.inr hm)).2.1 rfl
  · intro i j bi bj k hi hj hoi hoj
    obtain ⟨b0, h0, hb⟩ := hh i bi hi
    obtain ⟨c0, k0, hc⟩ := hh j bj hj
    exact hS.inj i j b0 c0 k h0 k0 (ho h0 hb k hoi) (ho k0 hc k hoj)
  · intro id b k h hoc hf
    obtain ⟨b0, h0, hb⟩ := hh id b h
    exact (hk id b b0 k h h0 (ho h0 hb k hoc)).2.1 hf
  · intro id b k h hoc hf
    obtain ⟨b0, h0, hb⟩ := hh id b h
    exact (hk id b b0 k h h0 (ho h0 hb k hoc)).2.2 hf
  · intro id b k h hoc hf
    obtain ⟨b0, h0, hb⟩ := hh id b h
    rcases hb with rfl | ⟨e, t, ys, rfl, h1⟩
    · exact hS.own id b k h0 hoc hf
    · cases hf
  · rcases hff b hb with h | h
    · exact hS.ff.2 b h
    · exact .inr h

/-! ### Rows written back -/
/-- The numbers of the rows in cells. -/
def ownIds : List (At E) → List Nat
  | [] => []
  | .own id :: r => id :: ownIds r
  | _ :: r => ownIds r
def MutA (G : Gh) : Ty → At E → Prop
  | .slice e t, .own id => ∃ n, G.ln id = n ∧ G.sz id = tsz E t ∧ ((∃ A, G.hd id = .slice A 0 0 ∧ n = 0) ∨ ∃ cap, G.hd id = .slice (some ⟨G.loc id, 0, none⟩) n cap ∧ 0 < cap)
  | .slice _ _, x => x = .nils
  | _, x => ∀ i, x ≠ .own i
def MutL (G : Gh) : List Ty → List (At E) → Prop
  | [], xs => xs = []
  | t :: ts, xs => ∃ x r, xs = x :: r ∧ MutA G t x ∧ MutL G ts r
theorem MutA.ext {K K' : Nat → Prop} (hE : Ext G K W G' K' W') {t : Ty} {x : At E} (hk : ∀ i, x = .own i → K i) (h : MutA G t x) : MutA G' t x := by
  cases t with
  | slice e t =>
    cases x with
    | own id =>
      have hk := hk id rfl
      obtain ⟨n, h1, h2, h3⟩ := h
      exact ⟨n, by rw [hE.ln id hk]; exact h1, by rw [hE.sz id hk]; exact h2, by rw [hE.hd id hk, hE.loc id hk]; exact h3⟩
    | _ => exact h
  | _ => exact h
theorem MutL.ext {K K' : Nat → Prop} (hE : Ext G K W G' K' W') : ∀ {ts : List Ty} {xs : List (At E)}, (∀ i ∈ ownIds xs, K i) → MutL G ts xs → MutL G' ts xs
  | [], _, _, h => h
  | t :: ts, _, hk, ⟨x, r, hx, ha, hr⟩ => by
    subst hx
    refine ⟨x, r, rfl, ha.ext hE fun i hi => hk i (by subst hi; simp [ownIds]), MutL.ext hE (fun i hi => hk i ?_) hr⟩
    cases x <;> simp [ownIds, hi]
theorem ownIds_cons (x : At E) (r : List (At E)) : ownIds (x :: r) = ownIds [x] ++ ownIds r := by cases x <;> rfl
theorem mutA_of (hS : Sim cx G S tm W) {dp : Bool} {t : Ty} {x : At E} {l l' l2 l3 m : List Nat} {d : Ty.D E.S t} (h : RM.Out S.h (ofAt E t x) l d l') (h2 : RM.Out S.h (ownAt E false dp t x) l2 m l3) : MutA G t x ∧ m = ownIds [x] := by
  unfold ownAt at h2
  split at h2
  · obtain rfl := h2.1; exact ⟨fun i h => (by cases h), rfl⟩
  · obtain rfl := h2.1; exact ⟨fun i h => (by cases h), rfl⟩
  · rename_i e t id
    obtain ⟨b, hb, h2⟩ := h2
    obtain ⟨b', hb', h⟩ := h
    rw [hb] at hb'; cases hb'
    dsimp only at h h2
    split at h2
    · rename_i e' t' xs
      have hb' := RM.Out_bif h2; clear h2; obtain ⟨hc, h2⟩ := hb'
      obtain rfl := h2.1
      obtain ⟨rfl, rfl, rfl⟩ := castR_sound h
      obtain ⟨b1, b2, b3, hrow⟩ := hS.blks id _ hb
      refine ⟨⟨_, b1, b2, ?_⟩, rfl⟩
      rcases hrow with ⟨A, h1, h2⟩ | ⟨cap, cur, d, hhd, hcap, _⟩
      · exact .inl ⟨A, h1, by rw [h2]; rfl⟩
      · exact .inr ⟨cap, hhd, hcap⟩
    · rename_i e' t' xs hid
      have hb' := RM.Out_bif h2; clear h2; obtain ⟨hc, h2⟩ := hb'
      obtain rfl := h2.1
      obtain ⟨rfl, rfl, rfl⟩ := castR_sound h
      obtain ⟨b0, b1, b2, b3, hrow⟩ := hS.blks id _ hb
      refine ⟨⟨_, b1, b2, ?_⟩, rfl⟩
      rcases hrow with ⟨A, h1, h2, _⟩ | ⟨cap, cur, d, fps, hhd, hcap, _⟩
      · exact .inl ⟨A, h1, by rw [h2]; rfl⟩
      · exact .inr ⟨cap, hhd, hcap⟩
    · exact h2.elim
  · obtain ⟨b, hb, h2⟩ := h2
    dsimp only at h2
    split at h2
    · exact (RM.Out_bif h2).1 |> fun h => by simp at h
    · exact h2.elim
  · obtain rfl := h2.1; exact ⟨rfl, rfl⟩
  · obtain rfl := h2.1; exact ⟨fun i h => (by cases h), rfl⟩
  · obtain rfl := h2.1; exact ⟨fun i h => (by cases h), rfl⟩
  · obtain rfl := h2.1; exact ⟨fun i h => (by cases h), rfl⟩
  · exact h2.elim
theorem mutL_of (hS : Sim cx G S tm W) {dp : Bool} : ∀ {ts : List Ty} {xs : List (At E)} {l l' l2 l3 m : List Nat} {d : HT E.S ts}, RM.Out S.h (ofAts E ts xs) l d l' → RM.Out S.h (ownAll E false dp ts xs) l2 m l3 → MutL G ts xs ∧ m = ownIds xs
  | [], [], _, _, _, _, _, _, _, h2 => ⟨rfl, h2.1⟩
  | [], _ :: _, _, _, _, _, _, _, h, _ => h.elim
  | _ :: _, [], _, _, _, _, _, _, h, _ => h.elim
  | t :: ts, x :: xs, _, _, _, _, m, _, h, h2 => by
    obtain ⟨y, l1, h1, h⟩ := RM.Out_bind h
    obtain ⟨z, l2, h3, h⟩ := RM.Out_bind h
    obtain ⟨m1, l5, h4, h2⟩ := RM.Out_bind h2
    obtain ⟨m2, l6, h5, h2⟩ := RM.Out_bind h2
    obtain rfl := h2.1
    obtain ⟨i1, rfl⟩ := mutA_of hS h1 h4
    obtain ⟨j1, rfl⟩ := mutL_of hS h3 h5
    exact ⟨⟨x, xs, rfl, i1, j1⟩, (ownIds_cons x xs).symm⟩
theorem backRow_le (dp : Bool) (e : Nat) (t : Ty) (xs : List (Ty.D E.S t)) (id fr : Nat) : fr ≤ (backRow E dp e t xs id fr).2 := by
  unfold backRow
  cases dp && !t.flat1 E <;> simp
theorem backRow_key (dp : Bool) (e : Nat) (t : Ty) (xs : List (Ty.D E.S t)) (id fr i : Nat) (hi : i ≠ id) (hk : i < fr ∨ (backRow E dp e t xs id fr).2 ≤ i) : lk (backRow E dp e t xs id fr).1 i = none := by
  unfold backRow at hk ⊢
  cases hc : dp && !t.flat1 E <;> simp only [hc, cond_true, cond_false, lk_cons] at hk ⊢
  · rw [if_neg (fun e => hi e.symm)]; rfl
  · rw [if_neg (fun e => hi e.symm), if_neg (by omega)]; rfl
theorem Sim.backRow (hS : Sim cx G S tm W) {dp : Bool} {id e fr : Nat} {t : Ty} {xs : List (Ty.D E.S t)} {fp : List Nat} (hn : S.h id = none) (hk : S.k id) (hm : MutA (E := E) G (.slice e t) (.own id)) (h : OwnA E W G.F dp (.slice e t) xs (G.hd id) fp) (hfree : ∀ b ∈ fp, Free cx G S b)
    (hnew : ∀ k, fr ≤ k → k < (Mir.backRow E dp e t xs id fr).2 → lk S.H k = none) :
    ∃ G', Sim cx G' { S with H := (Mir.backRow E dp e t xs id fr).1 ++ S.H } tm W ∧ Ext G S.k W G' (St.k { S with H := (Mir.backRow E dp e t xs id fr).1 ++ S.H }) W ∧ G'.F = G.F ∧ ∀ k, k ∉ fp → Free cx G S k → Free cx G' { S with H := (Mir.backRow E dp e t xs id fr).1 ++ S.H } k := by
  have h : RwA E W G.F (dp && !t.flat1 E) e t xs (G.hd id) fp := h
  obtain ⟨n, h1, h2, h3⟩ := hm
  unfold Mir.backRow at hnew ⊢
  cases hc : dp && !t.flat1 E with
  | false =>
    rw [hc] at h
    have key : Sim cx G { S with H := (id, .row e t xs false) :: S.H } tm W ∧ ∀ k, k ∉ fp → Free cx G S k → Free cx G { S with H := (id, .row e t xs false) :: S.H } k := by
      rcases h with ⟨A, hv, rfl, rfl⟩ | ⟨g, cap, cur, d, hv, rfl, k1, k2, k3, k4, k5, k6⟩
      · have hno : ∀ k, ¬ Occ (E := E) G id (.row e t [] false) k := fun k h => by have := h.2; rw [hv] at this; simp [capOf] at this
        refine ⟨hS.adopt hn ext_self rfl ⟨?_, h2, tsz_pos E t, .inl ⟨A, hv, rfl⟩⟩ rfl (fun k hk => (hno k hk).elim), fun k _ hf => hf.cons hS (ext_self (W := W)) rfl (hno k)⟩
        rcases h3 with ⟨_, _, h3⟩ | ⟨cap, h3, h4⟩
        · rw [h1, h3]; rfl
        · rw [hv] at h3; cases h3; omega
      · rcases h3 with ⟨A, h3, _⟩ | ⟨cap', h3, h4⟩
        · rw [hv] at h3; injection h3; omega
        · rw [hv] at h3
          have e1 : g = G.loc id := by injection h3 with e1 e2 e3; injection e1 with e1; injection e1
          have e2 : xs.length = n := by injection h3
          have e3 : cap = cap' := by injection h3
          subst e1 e3
          rw [← e2] at h1
          have hoc : ∀ k, Occ (E := E) G id (.row e t xs false) k → k = G.loc id := fun k h => h.1
          refine ⟨hS.adopt hn ext_self rfl ⟨h1, h2, tsz_pos E t, .inr ⟨cap, cur, d, hv, k1, k2, k3, k4, k5, k6⟩⟩ rfl (fun k hk => hfree k (by simp [hoc k hk])), fun k hk hf => hf.cons hS (ext_self (W := W)) rfl fun h => hk (by simp [hoc k h])⟩
    exact ⟨G, key.1, ext_self, rfl, key.2⟩
  | true =>
    rw [hc] at h hnew
    obtain ⟨hnd, d, h⟩ := h
    have hfr := hnew fr (Nat.le_refl _) (by simp)
    have hne : id ≠ fr := fun e => by subst e; unfold St.k at hk; rw [hfr] at hk; cases hk
    have hlen : G.ln id = xs.length := by
      cases d with
      | zero => exact h.elim
      | succ d =>
        rcases h with ⟨A, hv, rfl, _⟩ | ⟨g, cap, cur, fps, hv, _, hcap, _⟩
        · rcases h3 with ⟨_, _, h3⟩ | ⟨cap, h3, h4⟩
          · rw [h1, h3]; rfl
          · rw [hv] at h3; cases h3; omega
        · rcases h3 with ⟨A, h3, _⟩ | ⟨cap', h3, h4⟩
          · rw [hv] at h3; injection h3; omega
          · rw [hv] at h3; rw [h1]; injection h3 with _ e2; exact e2.symm
    obtain ⟨G', i1, i2, i3, i4, i5⟩ := hS.adoptD (id := id) (hid := fr) hn hfr hne h hnd hfree (.inr ⟨rfl, hlen, h2, fun h0 => by
      rcases h3 with ⟨A, h3, _⟩ | ⟨cap', h3, h4⟩
      · rw [h3] at h0; simp [capOf] at h0
      · exact ⟨cap', by rw [h3, ← h1, hlen]⟩⟩)
    exact ⟨G', i1, i2, i3, i5⟩
theorem h_append_none {U : Up E} {i : Nat} (hl : lk U i = none) (h : S.h i = none) : St.h { S with H := U ++ S.H } i = none := by
  unfold St.h at *
  simp only [lk_append, hl]
  exact h
theorem ext_app {U : Up E} : Ext G S.k W G (St.k { S with H := U ++ S.H }) W := ⟨fun _ _ => rfl, fun _ _ => rfl, fun _ _ => rfl, fun _ _ => rfl, fun _ _ => rfl, fun _ _ => rfl, fun i hi => k_append hi, fun _ h => h, fun _ _ => rfl⟩
theorem not_fresh {fr en i : Nat} (hk : S.k i) (hnew : ∀ k, fr ≤ k → k < en → lk S.H k = none) : i < fr ∨ en ≤ i := by
  by_cases h : fr ≤ i ∧ i < en
  · have := hnew i h.1 h.2
    unfold St.k at hk
    rw [this] at hk; cases hk
  · omega
theorem backAts_le (dp : Bool) : ∀ (ts : List Ty) (h : HT E.S ts) (xs : List (At E)) (fr : Nat), fr ≤ (backAts E dp ts h xs fr).2
  | [], _, _, _ => Nat.le_refl _
  | t :: ts, h, [], fr => by cases t <;> exact Nat.le_refl _
  | t :: ts, h, x :: xs, fr => by
    cases t with
    | slice e t =>
      cases x with
      | own id => exact Nat.le_trans (backRow_le dp e t h.1 id fr) (backAts_le dp ts h.2 xs _)
      | _ => exact backAts_le dp ts h.2 xs fr
    | _ => cases x <;> exact backAts_le dp ts h.2 xs fr
theorem back_sound {dp : Bool} : ∀ {ts : List Ty} {h : HT E.S ts} {vs : List Value} {fp : List Nat} {xs : List (At E)} {fr : Nat} {G : Gh} {S : St E}, (hS : Sim cx G S tm W) → OwnL E W G.F dp ts h vs fp → fp.Nodup → (∀ b ∈ fp, Free cx G S b) → MutL G ts xs → (∃ K W2, AtsR G K W2 xs vs) → (ownIds xs).Nodup → (∀ i ∈ ownIds xs, S.h i = none ∧ S.k i) →
    (∀ k, fr ≤ k → k < (backAts E dp ts h xs fr).2 → lk S.H k = none) →
    ∃ G', Sim cx G' { S with H := (backAts E dp ts h xs fr).1 ++ S.H } tm W ∧ Ext G S.k W G' (St.k { S with H := (backAts E dp ts h xs fr).1 ++ S.H }) W ∧ G'.F = G.F ∧ (∀ k, k ∉ fp → Free cx G S k → Free cx G' { S with H := (backAts E dp ts h xs fr).1 ++ S.H } k) ∧
      ∀ i, i ∉ ownIds xs → (i < fr ∨ (backAts E dp ts h xs fr).2 ≤ i) → lk (backAts E dp ts h xs fr).1 i = none
  | [], _, _, _, xs, _, G, S, hS, _, _, _, hm, _, _, _, _ => by
    rw [MutL] at hm; subst hm
    exact ⟨G, hS, Ext.refl _ _ _, rfl, fun _ _ h => h, fun _ _ _ => rfl⟩
  | t :: ts, h, vs, fp, xs, fr, G, S, hS, ⟨v, r, f1, f2, hv, hfp, ha, hr⟩, hnd, hfree, ⟨x, r', hx, hma, hmr⟩, ⟨K, W2, hat⟩, hids, hgone, hnew => by
    subst hfp hx hv
    obtain ⟨v', r2, hv', hxa, hxr⟩ := hat
    cases hv'
    obtain ⟨hn1, hn2, hdis⟩ := List.nodup_append.1 hnd
    have hsub : ∀ i ∈ ownIds r', i ∈ ownIds (x :: r') := fun i hi => by cases x <;> simp [ownIds, hi]
    have hids' : (ownIds r').Nodup := by
      cases x <;> first | exact hids | exact (List.nodup_cons.1 hids).2
    have skip : backAts E dp (t :: ts) h (x :: r') fr = backAts E dp ts h.2 r' fr → f1 = [] → ∃ G', Sim cx G' { S with H := (backAts E dp (t :: ts) h (x :: r') fr).1 ++ S.H } tm W ∧ Ext G S.k W G' (St.k { S with H := (backAts E dp (t :: ts) h (x :: r') fr).1 ++ S.H }) W ∧ G'.F = G.F ∧ (∀ k, k ∉ f1 ++ f2 → Free cx G S k → Free cx G' { S with H := (backAts E dp (t :: ts) h (x :: r') fr).1 ++ S.H } k) ∧
      ∀ i, i ∉ ownIds (x :: r') → (i < fr ∨ (backAts E dp (t :: ts) h (x :: r') fr).2 ≤ i) → lk (backAts E dp (t :: ts) h (x :: r') fr).1 i = none := by
      intro heq hf1
      rw [heq] at hnew ⊢
      obtain ⟨G1, i1, i2, i3, i4, i5⟩ := back_sound hS hr hn2 (fun b hb => hfree b (by simp [hb])) hmr ⟨K, W2, hxr⟩ hids' (fun i hi => hgone i (hsub i hi)) hnew
      exact ⟨G1, i1, i2, i3, fun k hk => i4 k (by simp at hk; exact hk.2), fun i hi => i5 i fun h => hi (hsub i h)⟩
    cases t with
    | slice e t =>
      cases x with
      | own id =>
        obtain ⟨hn3, hn4⟩ := List.nodup_cons.1 hids
        have hl1 := backRow_le dp e t h.1 id fr
        have hl2 := backAts_le dp ts h.2 r' (backRow E dp e t h.1 id fr).2
        simp only [backAts] at hnew ⊢
        obtain ⟨G1, i1, i2, i3, i4, i5⟩ := back_sound (fr := (backRow E dp e t h.1 id fr).2) hS hr hn2 (fun b hb => hfree b (by simp [hb])) hmr ⟨K, W2, hxr⟩ hids' (fun i hi => hgone i (hsub i hi)) (fun k h1 h2 => hnew k (by omega) h2)
        have hidk : S.k id := (hgone id (by simp [ownIds])).2
        have hidf := not_fresh hidk hnew
        have hma' := MutA.ext i2 (fun i hi => by cases hi; exact hidk) hma
        have hxv : v = G1.hd id := by rw [i2.hd id hidk]; exact hxa.2.1
        obtain ⟨G2, j1, j2, j3, j4⟩ := i1.backRow (dp := dp) (fr := fr) (id := id) (h_append_none (i5 id hn3 (by omega)) (hgone id (by simp [ownIds])).1) (i2.K id hidk) hma' (by rw [← hxv, i3]; exact ha) (fun b hb => i4 b (fun h2 => hdis b hb b h2 rfl) (hfree b (by simp [hb]))) (fun k h1 h2 => by
          show lk (_ ++ S.H) k = none
          rw [lk_append, i5 k (fun hk => by rcases not_fresh (hgone k (hsub k hk)).2 hnew with h | h <;> omega) (by omega)]
          exact hnew k h1 (by omega))
        rw [List.append_assoc]
        refine ⟨G2, j1, i2.trans j2, j3.trans i3, fun k hk hf => j4 k (fun h => hk (by simp [h])) (i4 k (fun h => hk (by simp [h])) hf), fun i hi hlt => ?_⟩
        simp only [ownIds, List.mem_cons, not_or] at hi
        rw [lk_append, backRow_key dp e t h.1 id fr i hi.1 (by omega)]
        exact i5 i hi.2 (by omega)
      | nils =>
        obtain ⟨A, rfl⟩ := hxa
        refine skip rfl ?_
        have ha : RwA E W G.F (dp && !t.flat1 E) e t h.1 (.slice A 0 0) f1 := ha
        cases hc : dp && !t.flat1 E with
        | false =>
          rw [hc] at ha
          rcases ha with ⟨_, _, _, h⟩ | ⟨g, cap, cur, d, hv, _, h, _⟩
          · exact h
          · injection hv with _ _ e; omega
        | true =>
          rw [hc] at ha
          obtain ⟨_, d, ha⟩ := ha
          cases d with
          | zero => exact ha.elim
          | succ d =>
            rcases ha with ⟨_, _, _, h⟩ | ⟨g, cap, cur, fps, hv, _, h, _⟩
            · exact h
            · injection hv with _ _ e; omega
      | _ => cases hma
    | int k => exact skip (by cases x <;> rfl) ha.2
    | bool => exact skip (by cases x <;> rfl) ha.2
    | str => exact skip (by cases x <;> rfl) ha.2
    | rsl e t => exact skip (by cases x <;> rfl) ha.2
    | st n => exact ha.elim
    | arr k n => exact ha.elim
    | pbx b n => exact ha.elim
end Mir
