/- The mirror machine: blocks that come and go with a call. -/
import Derived.Test.YtfgcbamnclkiiaaMir14
namespace Mir
set_option linter.unusedVariables false
set_option linter.unusedSimpArgs false
open Go
variable {E : Env} {P : Program} {T : Tb} {cx : Cx} {G G' : Gh} {S : St E} {tm : Array Value} {a : Act} {W W' : World}

/-- A block that no row of the state's takes, and that may be written. -/
def Free (cx : Cx) (G : Gh) (S : St E) (k : Nat) : Prop := ¬ G.F k ∧ (cx.W0.heap.size ≤ k ∨ cx.M k) ∧ ∀ i b, S.h i = some b → ¬ Occ G i b k
theorem h_cons {id : Nat} {b : Blk E} {i : Nat} {c : Blk E} (h : St.h { S with H := (id, b) :: S.H } i = some c) : (i = id ∧ c = b) ∨ (i ≠ id ∧ S.h i = some c) := by
  unfold St.h at h ⊢
  simp only [lk_cons] at h
  split at h
  · rename_i c' hl
    by_cases hi : id = i
    · rw [if_pos hi] at hl; cases hl; cases h
    · rw [if_neg hi] at hl; cases h
  · rename_i hl
    by_cases hi : id = i
    · rw [if_pos hi] at h; cases h; exact .inl ⟨hi.symm, rfl⟩
    · rw [if_neg hi] at h
      refine .inr ⟨fun e => hi e.symm, ?_⟩
      rw [h]
      cases c <;> first | rfl | (exfalso; exact hl (by simp [hi, h]))
theorem Sim.adopt (hS : Sim cx G S tm W) {id : Nat} {b : Blk E} (hn : S.h id = none) (hE : Ext G S.k W G' (St.k { S with H := (id, b) :: S.H }) W) (hF : G'.F = G.F)
    (hb : BlkR G' (St.k { S with H := (id, b) :: S.H }) W id b) (hz : b.fz = false) (hnew : ∀ k, Occ G' id b k → Free cx G S k) : Sim cx G' { S with H := (id, b) :: S.H } tm W := by
  have old : ∀ {i c}, i ≠ id → S.h i = some c → S.k i := fun _ h => St.h_k h
  refine ⟨hS.sz, fun s v h => (hS.tmps s v h).ext hE, ?_, ?_, ?_, ?_, ?_, ?_, hS.frm, by rw [hF]; exact hS.ff⟩
  · intro i c h
    rcases h_cons h with ⟨rfl, rfl⟩ | ⟨hne, h⟩
    · exact hb
    · exact (hS.blks i c h).ext hE (St.h_k h) fun _ _ => rfl
  · intro i j bi bj k hi hj hoi hoj
    rcases h_cons hi with ⟨e1, e2⟩ | ⟨hne, hi'⟩ <;> rcases h_cons hj with ⟨e3, e4⟩ | ⟨hne', hj'⟩
    · rw [e1, e3]
    · subst e1 e2; exact ((hnew k hoi).2.2 j bj hj' ((hE.occ (St.h_k hj')).1 hoj)).elim
    · subst e3 e4; exact ((hnew k hoj).2.2 i bi hi' ((hE.occ (St.h_k hi')).1 hoi)).elim
    · exact hS.inj i j bi bj k hi' hj' ((hE.occ (St.h_k hi')).1 hoi) ((hE.occ (St.h_k hj')).1 hoj)
  · intro i c k h ho hf
    rcases h_cons h with ⟨rfl, rfl⟩ | ⟨hne, h⟩
    · rw [hz] at hf; cases hf
    · exact hE.F _ (hS.sepF i c k h ((hE.occ (St.h_k h)).1 ho) hf)
  · intro i c k h ho hf
    rw [hF]
    rcases h_cons h with ⟨rfl, rfl⟩ | ⟨hne, h⟩
    · exact (hnew k ho).1
    · exact hS.sep i c k h ((hE.occ (St.h_k h)).1 ho) hf
  · intro i c k h ho hf
    rcases h_cons h with ⟨rfl, rfl⟩ | ⟨hne, h⟩
    · exact (hnew k ho).2.1
    · exact hS.own i c k h ((hE.occ (St.h_k h)).1 ho) hf
  · rw [hF]; exact hS.fr
theorem Free.cons {id : Nat} {b : Blk E} {k : Nat} (hE : Ext G S.k W G' (St.k { S with H := (id, b) :: S.H }) W') (hF : G'.F = G.F) (hk : ¬ Occ G' id b k) (h : Free cx G S k) : Free cx G' { S with H := (id, b) :: S.H } k := by
  refine ⟨by rw [hF]; exact h.1, h.2.1, fun i c hi ho => ?_⟩
  rcases h_cons hi with ⟨rfl, rfl⟩ | ⟨hne, hi⟩
  · exact hk ho
  · exact h.2.2 i c hi ((hE.occ (St.h_k hi)).1 ho)
/-- The state's ids behind it. -/
theorem k_cons {id : Nat} {b : Blk E} {i : Nat} (h : S.k i) : St.k { S with H := (id, b) :: S.H } i := k_append (U := [(id, b)]) h
theorem k_cons_self {id : Nat} {b : Blk E} : St.k { S with H := (id, b) :: S.H } id := by unfold St.k; simp [lk_cons]
/-- A row of one's own comes to the state under a new number. -/
theorem Sim.adoptRow (hS : Sim cx G S tm W) {fr : Nat} (hf : lk S.H fr = none) {e : Nat} {t : Ty} {xs : List (Ty.D E.S t)} {v : Value} {fp : List Nat} (h : OwnA E W G.F (.slice e t) xs v fp) (hfree : ∀ b ∈ fp, Free cx G S b) :
    ∃ G', Sim cx G' { S with H := (fr, .row e t xs false) :: S.H } tm W ∧ Ext G S.k W G' (St.k { S with H := (fr, .row e t xs false) :: S.H }) W ∧ G'.F = G.F ∧
      AtR (E := E) G' (St.k { S with H := (fr, .row e t xs false) :: S.H }) W (.own fr) v ∧ ∀ k, k ∉ fp → Free cx G S k → Free cx G' { S with H := (fr, .row e t xs false) :: S.H } k := by
  have hn : S.h fr = none := by unfold St.h; rw [hf]
  have mk : ∀ loc : Nat, (∃ A n c, v = .slice A n c) → (∀ k, (k = loc ∧ 0 < capOf v) → k ∈ fp) → ((∃ A, v = .slice A 0 0 ∧ xs = []) ∨ ∃ cap cur d, v = .slice (some ⟨loc, 0, none⟩) xs.length cap ∧ 0 < cap ∧ W.heap[loc]? = some (.cells cur e (0, 0)) ∧ xs.length ≤ cap ∧ cap ≤ maxLen ∧ cap * tsz E t ≤ cur.size ∧
         ∀ (i : Nat) (hi : i < xs.length), RoE E (RoA E W G.F d) t xs[i] ((cur.toList.drop (i * tsz E t)).take (tsz E t))) →
      ∃ G', Sim cx G' { S with H := (fr, .row e t xs false) :: S.H } tm W ∧ Ext G S.k W G' (St.k { S with H := (fr, .row e t xs false) :: S.H }) W ∧ G'.F = G.F ∧
      AtR (E := E) G' (St.k { S with H := (fr, .row e t xs false) :: S.H }) W (.own fr) v ∧ ∀ k, k ∉ fp → Free cx G S k → Free cx G' { S with H := (fr, .row e t xs false) :: S.H } k := by
    intro loc hsl hocc hrow
    have hE : Ext G S.k W (G.add fr loc v xs.length (tsz E t)) (St.k { S with H := (fr, .row e t xs false) :: S.H }) W := Gh.add_ext (not_k hf) (fun i hi => k_cons hi) fun _ _ => rfl
    have ho : ∀ k, Occ (E := E) (G.add fr loc v xs.length (tsz E t)) fr (.row e t xs false) k → k ∈ fp := by
      rintro k ⟨h1, h2⟩
      refine hocc k ⟨?_, ?_⟩
      · rw [h1]; exact updf_same _ _ _
      · rw [show (G.add fr loc v xs.length (tsz E t)).hd fr = v from updf_same _ _ _] at h2; exact h2
    refine ⟨_, hS.adopt hn hE rfl ?_ rfl (fun k hk => hfree k (ho k hk)), hE, rfl, ⟨k_cons_self, (updf_same _ _ _).symm, hsl⟩, fun k hk hfk => hfk.cons hE rfl fun h => hk (ho k h)⟩
    refine ⟨updf_same _ _ _, updf_same _ _ _, tsz_pos E t, ?_⟩
    rw [show (G.add fr loc v xs.length (tsz E t)).hd fr = v from updf_same _ _ _, show (G.add fr loc v xs.length (tsz E t)).loc fr = loc from updf_same _ _ _]
    exact hrow
  rcases h with ⟨A, rfl, rfl, rfl⟩ | ⟨g, cap, cur, d, rfl, rfl, h3, h4, h5, h6, h7, h8⟩
  · exact mk 0 ⟨_, _, _, rfl⟩ (fun k h => absurd h.2 (by simp [capOf])) (.inl ⟨A, rfl, rfl⟩)
  · exact mk g ⟨_, _, _, rfl⟩ (fun k h => by simp [h.1]) (.inr ⟨cap, cur, d, rfl, h3, h4, h5, h6, h7, h8⟩)
theorem newAts_le : ∀ (ts : List Ty) (h : HT E.S ts) (fr : Nat), fr ≤ (newAts E ts h fr).2.2
  | [], _, _ => Nat.le_refl _
  | .slice e t :: ts, h, fr => Nat.le_trans (Nat.le_succ _) (newAts_le ts h.2 (fr + 1))
  | .int _ :: ts, h, fr => newAts_le ts h.2 fr
  | .bool :: ts, h, fr => newAts_le ts h.2 fr
  | .str :: ts, h, fr => newAts_le ts h.2 fr
  | .st _ :: ts, h, fr => newAts_le ts h.2 fr
theorem newAts_key : ∀ (ts : List Ty) (h : HT E.S ts) (fr k : Nat), (k < fr ∨ (newAts E ts h fr).2.2 ≤ k) → lk (newAts E ts h fr).2.1 k = none
  | [], _, _, _, _ => rfl
  | .slice e t :: ts, h, fr, k, hk => by
    have := newAts_le ts h.2 (fr + 1)
    simp only [newAts, lk_cons] at hk ⊢
    rw [if_neg (by omega)]
    exact newAts_key ts h.2 (fr + 1) k (by omega)
  | .int _ :: ts, h, fr, k, hk => newAts_key ts h.2 fr k hk
  | .bool :: ts, h, fr, k, hk => newAts_key ts h.2 fr k hk
  | .str :: ts, h, fr, k, hk => newAts_key ts h.2 fr k hk
  | .st _ :: ts, h, fr, k, hk => newAts_key ts h.2 fr k hk
theorem newAts_sound : ∀ {ts : List Ty} {h : HT E.S ts} {vs : List Value} {fp : List Nat} {fr : Nat}, (hS : Sim cx G S tm W) → OwnL E W G.F ts h vs fp → fp.Nodup → (∀ b ∈ fp, Free cx G S b) → (∀ k, fr ≤ k → k < (newAts E ts h fr).2.2 → lk S.H k = none) →
    ∃ G', Sim cx G' { S with H := (newAts E ts h fr).2.1 ++ S.H } tm W ∧ Ext G S.k W G' (St.k { S with H := (newAts E ts h fr).2.1 ++ S.H }) W ∧ G'.F = G.F ∧
      AtsR G' (St.k { S with H := (newAts E ts h fr).2.1 ++ S.H }) W (newAts E ts h fr).1 vs ∧ ∀ k, k ∉ fp → Free cx G S k → Free cx G' { S with H := (newAts E ts h fr).2.1 ++ S.H } k
  | [], _, _, _, _, hS, ho, _, _, _ => ⟨G, hS, Ext.refl _ _ _, rfl, ho.1, fun _ _ h => h⟩
  | t :: ts, h, vs, fp, fr, hS, ⟨v, r, f1, f2, hv, hfp, ha, hr⟩, hnd, hfree, hnew => by
    subst hfp
    obtain ⟨hn1, hn2, hdis⟩ := List.nodup_append.1 hnd
    have scalar : ∀ {c : At E}, f1 = [] → (∀ (G' : Gh) (K : Nat → Prop), AtR G' K W c v) → newAts E (t :: ts) h fr = (c :: (newAts E ts h.2 fr).1, (newAts E ts h.2 fr).2) →
        ∃ G', Sim cx G' { S with H := (newAts E (t :: ts) h fr).2.1 ++ S.H } tm W ∧ Ext G S.k W G' (St.k { S with H := (newAts E (t :: ts) h fr).2.1 ++ S.H }) W ∧ G'.F = G.F ∧
      AtsR G' (St.k { S with H := (newAts E (t :: ts) h fr).2.1 ++ S.H }) W (newAts E (t :: ts) h fr).1 vs ∧ ∀ k, k ∉ f1 ++ f2 → Free cx G S k → Free cx G' { S with H := (newAts E (t :: ts) h fr).2.1 ++ S.H } k := by
      intro c hf1 hc heq
      rw [heq] at hnew ⊢
      obtain ⟨G', i1, i2, i3, i4, i5⟩ := newAts_sound hS hr hn2 (fun b hb => hfree b (by simp [hb])) hnew
      exact ⟨G', i1, i2, i3, ⟨v, r, hv, hc _ _, i4⟩, fun k hk => i5 k (by simp at hk; exact hk.2)⟩
    cases t with
    | int k => exact scalar (c := .int k h.1) ha.2 (fun _ _ => ha.1) rfl
    | bool => exact scalar (c := .bool h.1) ha.2 (fun _ _ => ha.1) rfl
    | str => exact scalar (c := .str h.1) ha.2 (fun _ _ => ha.1) rfl
    | st n => exact ha.elim
    | slice e t =>
      have hle := newAts_le ts h.2 (fr + 1)
      simp only [newAts] at hnew ⊢
      obtain ⟨G1, i1, i2, i3, i4, i5⟩ := newAts_sound hS hr hn2 (fun b hb => hfree b (by simp [hb])) (fun k h1 h2 => hnew k (by omega) h2)
      have ha1 : OwnA E W G1.F (.slice e t) h.1 v f1 := by rw [i3]; exact ha
      obtain ⟨G2, j1, j2, j3, j4, j5⟩ := i1.adoptRow (fr := fr) (by
        show lk (_ ++ S.H) fr = none
        rw [lk_append, newAts_key ts h.2 (fr + 1) fr (by omega)]; exact hnew fr (Nat.le_refl _) (by omega)) ha1 (fun b hb => i5 b (fun h2 => hdis b hb b h2 rfl) (hfree b (by simp [hb])))
      exact ⟨G2, j1, i2.trans j2, j3.trans i3, ⟨v, r, hv, j4, AtsR.ext j2 i4⟩, fun k hk hf => j5 k (fun h => hk (by simp [h])) (i5 k (fun h => hk (by simp [h])) hf)⟩
end Mir
