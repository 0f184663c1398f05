/- The mirror machine: blocks that come and go with a call. -/
import Derived.Test.YtbepkbaemapkjaaMir14
namespace Mir
set_option linter.unusedVariables false
set_option linter.unusedSimpArgs false
open Go
variable {E : Env} {P : Program} {T : Tb} {cx : Cx} {G G' : Gh} {S : St E} {tm : Array Value} {a : Act} {W W' : World}

/-- A block that no row of the state's takes, and that may be written. -/
def Free (cx : Cx) (G : Gh) (S : St E) (k : Nat) : Prop := ¬ G.F k ∧ (cx.W0.heap.size ≤ k ∨ cx.M k) ∧ ∀ i b, S.h i = some b → ¬ Occ G i b k
theorem h_cons {id : Nat} {b : Blk E} {i : Nat} {c : Blk E} (h : St.h { S with H := (id, b) :: S.H } i = some c) : (i = id ∧ c = b) ∨ (i ≠ id ∧ S.h i = some c) := by
  unfold St.h at h ⊢
  simp only [lk_cons] at h
  split at h
  · rename_i c' hl
    by_cases hi : id = i
    · rw [if_pos hi] at hl; cases hl; cases h
    · rw [if_neg hi] at hl; cases h
  · rename_i hl
    by_cases hi : id = i
    · rw [if_pos hi] at h; cases h; exact .inl ⟨hi.symm, rfl⟩
    · rw [if_neg hi] at h
      refine .inr ⟨fun e => hi e.symm, ?_⟩
      rw [h]
      cases c <;> first | rfl | (exfalso; exact hl (by simp [hi, h]))
theorem Sim.adopt (hS : Sim cx G S tm W) {id : Nat} {b : Blk E} (hn : S.h id = none) (hE : Ext G S.k W G' (St.k { S with H := (id, b) :: S.H }) W) (hF : G'.F = G.F)
    (hb : BlkR G' (St.k { S with H := (id, b) :: S.H }) W id b) (hz : b.fz = false) (hnew : ∀ k, Occ G' id b k → Free cx G S k) : Sim cx G' { S with H := (id, b) :: S.H } tm W := by
  have old : ∀ {i c}, i ≠ id → S.h i = some c → S.k i := fun _ h => St.h_k h
  refine ⟨hS.sz, fun s v h => (hS.tmps s v h).ext hE, ?_, ?_, ?_, ?_, ?_, ?_, hS.frm, by rw [hF]; exact hS.ff⟩
  · intro i c h
    rcases h_cons h with ⟨rfl, rfl⟩ | ⟨hne, h⟩
    · exact hb
    · exact (hS.blks i c h).ext hE (St.h_k h) fun _ _ => rfl
  · intro i j bi bj k hi hj hoi hoj
    rcases h_cons hi with ⟨e1, e2⟩ | ⟨hne, hi'⟩ <;> rcases h_cons hj with ⟨e3, e4⟩ | ⟨hne', hj'⟩
    · rw [e1, e3]
    · subst e1 e2; exact ((hnew k hoi).2.2 j bj hj' ((hE.occ (St.h_k hj') (hS.blks _ _ hj').hid).1 hoj)).elim
    · subst e3 e4; exact ((hnew k hoj).2.2 i bi hi' ((hE.occ (St.h_k hi') (hS.blks _ _ hi').hid).1 hoi)).elim
    · exact hS.inj i j bi bj k hi' hj' ((hE.occ (St.h_k hi') (hS.blks _ _ hi').hid).1 hoi) ((hE.occ (St.h_k hj') (hS.blks _ _ hj').hid).1 hoj)
  · intro i c k h ho hf
    rcases h_cons h with ⟨rfl, rfl⟩ | ⟨hne, h⟩
    · rw [hz] at hf; cases hf
    · exact hE.F _ (hS.sepF i c k h ((hE.occ (St.h_k h) (hS.blks _ _ h).hid).1 ho) hf)
  · intro i c k h ho hf
    rw [hF]
    rcases h_cons h with ⟨rfl, rfl⟩ | ⟨hne, h⟩
    · exact (hnew k ho).1
    · exact hS.sep i c k h ((hE.occ (St.h_k h) (hS.blks _ _ h).hid).1 ho) hf
  · intro i c k h ho hf
    rcases h_cons h with ⟨rfl, rfl⟩ | ⟨hne, h⟩
    · exact (hnew k ho).2.1
    · exact hS.own i c k h ((hE.occ (St.h_k h) (hS.blks _ _ h).hid).1 ho) hf
  · rw [hF]; exact hS.fr
theorem Free.cons (hS : Sim cx G S tm W) {id : Nat} {b : Blk E} {k : Nat} (hE : Ext G S.k W G' (St.k { S with H := (id, b) :: S.H }) W') (hF : G'.F = G.F) (hk : ¬ Occ G' id b k) (h : Free cx G S k) : Free cx G' { S with H := (id, b) :: S.H } k := by
  refine ⟨by rw [hF]; exact h.1, h.2.1, fun i c hi ho => ?_⟩
  rcases h_cons hi with ⟨rfl, rfl⟩ | ⟨hne, hi⟩
  · exact hk ho
  · exact h.2.2 i c hi ((hE.occ (St.h_k hi) (hS.blks _ _ hi).hid).1 ho)
/-- The state's ids behind it. -/
theorem k_cons {id : Nat} {b : Blk E} {i : Nat} (h : S.k i) : St.k { S with H := (id, b) :: S.H } i := k_append (U := [(id, b)]) h
theorem ext_self {id : Nat} {b : Blk E} : Ext G S.k W G (St.k { S with H := (id, b) :: S.H }) W := ⟨fun _ _ => rfl, fun _ _ => rfl, fun _ _ => rfl, fun _ _ => rfl, fun _ _ => rfl, fun _ _ => rfl, fun i hi => k_cons hi, fun _ h => h, fun _ _ => rfl⟩
theorem k_cons_self {id : Nat} {b : Blk E} : St.k { S with H := (id, b) :: S.H } id := by unfold St.k; simp [lk_cons]
/-- A row of one's own comes to the state under a new number. -/
theorem Sim.adoptRow (hS : Sim cx G S tm W) {fr : Nat} (hf : lk S.H fr = none) {e : Nat} {t : Ty} {xs : List (Ty.D E.S t)} {v : Value} {fp : List Nat} (h : ShA E W G.F e t xs v fp) (hfree : ∀ b ∈ fp, Free cx G S b) :
    ∃ G', Sim cx G' { S with H := (fr, .row e t xs false) :: S.H } tm W ∧ Ext G S.k W G' (St.k { S with H := (fr, .row e t xs false) :: S.H }) W ∧ G'.F = G.F ∧
      AtR (E := E) G' (St.k { S with H := (fr, .row e t xs false) :: S.H }) W (.own fr) v ∧ ∀ k, k ∉ fp → Free cx G S k → Free cx G' { S with H := (fr, .row e t xs false) :: S.H } k := by
  have hn : S.h fr = none := by unfold St.h; rw [hf]
  have mk : ∀ loc : Nat, (∃ A n c, v = .slice A n c) → (∀ k, (k = loc ∧ 0 < capOf v) → k ∈ fp) → ((∃ A, v = .slice A 0 0 ∧ xs = []) ∨ ∃ cap cur d, v = .slice (some ⟨loc, 0, none⟩) xs.length cap ∧ 0 < cap ∧ CellsAt W loc cur e ∧ xs.length ≤ cap ∧ cap ≤ maxLen ∧ cap * tsz E t ≤ cur.size ∧
         ∀ (i : Nat) (hi : i < xs.length), RoE E (RoA E W G.F d) t xs[i] ((cur.toList.drop (i * tsz E t)).take (tsz E t))) →
      ∃ G', Sim cx G' { S with H := (fr, .row e t xs false) :: S.H } tm W ∧ Ext G S.k W G' (St.k { S with H := (fr, .row e t xs false) :: S.H }) W ∧ G'.F = G.F ∧
      AtR (E := E) G' (St.k { S with H := (fr, .row e t xs false) :: S.H }) W (.own fr) v ∧ ∀ k, k ∉ fp → Free cx G S k → Free cx G' { S with H := (fr, .row e t xs false) :: S.H } k := by
    intro loc hsl hocc hrow
    have hE : Ext G S.k W (G.add fr loc v xs.length (tsz E t)) (St.k { S with H := (fr, .row e t xs false) :: S.H }) W := Gh.add_ext (not_k hf) (fun i hi => k_cons hi) fun _ _ => rfl
    have ho : ∀ k, Occ (E := E) (G.add fr loc v xs.length (tsz E t)) fr (.row e t xs false) k → k ∈ fp := by
      rintro k ⟨h1, h2⟩
      refine hocc k ⟨?_, ?_⟩
      · rw [h1]; exact updf_same _ _ _
      · rw [show (G.add fr loc v xs.length (tsz E t)).hd fr = v from updf_same _ _ _] at h2; exact h2
    refine ⟨_, hS.adopt hn hE rfl ?_ rfl (fun k hk => hfree k (ho k hk)), hE, rfl, ⟨k_cons_self, (updf_same _ _ _).symm, hsl⟩, fun k hk hfk => hfk.cons hS hE rfl fun h => hk (ho k h)⟩
    refine ⟨updf_same _ _ _, updf_same _ _ _, tsz_pos E t, ?_⟩
    rw [show (G.add fr loc v xs.length (tsz E t)).hd fr = v from updf_same _ _ _, show (G.add fr loc v xs.length (tsz E t)).loc fr = loc from updf_same _ _ _]
    exact hrow
  rcases h with ⟨A, rfl, rfl, rfl⟩ | ⟨g, cap, cur, d, rfl, rfl, h3, h4, h5, h6, h7, h8⟩
  · exact mk 0 ⟨_, _, _, rfl⟩ (fun k h => absurd h.2 (by simp [capOf])) (.inl ⟨A, rfl, rfl⟩)
  · exact mk g ⟨_, _, _, rfl⟩ (fun k h => by simp [h.1]) (.inr ⟨cap, cur, d, rfl, h3, h4, h5, h6, h7, h8⟩)
/-- A number for what a deep row's elements' slices are. -/
theorem Sim.adoptHdr (hS : Sim cx G S tm W) {fr : Nat} (hf : lk S.H fr = none) (inh : Nat → Nat → Value) (fp : List Nat) :
    ∃ G', Sim cx G' { S with H := (fr, .hdr) :: S.H } tm W ∧ Ext G S.k W G' (St.k { S with H := (fr, (.hdr : Blk E)) :: S.H }) W ∧ G'.F = G.F ∧ G'.inh fr = inh ∧ G'.fp fr = fp ∧ ∀ k, Free cx G S k → Free cx G' { S with H := (fr, .hdr) :: S.H } k := by
  have hn : S.h fr = none := by unfold St.h; rw [hf]
  have hne : ∀ i, S.k i → i ≠ fr := fun i hi e => not_k hf (e ▸ hi)
  have hE : Ext G S.k W { G with inh := updf G.inh fr inh, fp := updf G.fp fr fp } (St.k { S with H := (fr, (.hdr : Blk E)) :: S.H }) W :=
    ⟨fun _ _ => rfl, fun _ _ => rfl, fun _ _ => rfl, fun _ _ => rfl, fun i hi => updf_ne _ _ (hne i hi), fun i hi => updf_ne _ _ (hne i hi), fun i hi => k_cons hi, fun _ h => h, fun _ _ => rfl⟩
  exact ⟨_, hS.adopt hn hE rfl trivial rfl (fun k hk => hk.elim), hE, rfl, updf_same _ _ _, updf_same _ _ _, fun k hk => hk.cons hS hE rfl fun h => h.elim⟩
/-- What the slices in a deep row's elements are. -/
def inhOf (cur : Array Value) (sz : Nat) : Nat → Nat → Value := fun i c => (cur[i * sz + c]?).getD undef
/-- A deep row comes to the state: under a number that is gone or new, its own slice known. -/
theorem Sim.adoptD (hS : Sim cx G S tm W) {id hid : Nat} (hn : S.h id = none) (hh : lk S.H hid = none) (hne : id ≠ hid) {e : Nat} {t : Ty} {xs : List (Ty.D E.S t)} {v : Value} {fp : List Nat} {d : Nat} (h : DeepA E W d (.slice e t) xs v fp) (hnd : fp.Nodup) (hfree : ∀ b ∈ fp, Free cx G S b)
    (hid' : lk S.H id = none ∨ (G.hd id = v ∧ G.ln id = xs.length ∧ G.sz id = tsz E t ∧ (0 < capOf v → ∃ o, v = .slice (some ⟨G.loc id, 0, none⟩) xs.length o))) :
    ∃ G', Sim cx G' { S with H := (id, .drow e t xs hid) :: (hid, .hdr) :: S.H } tm W ∧ Ext G S.k W G' (St.k { S with H := (id, Blk.drow e t xs hid) :: (hid, .hdr) :: S.H }) W ∧ G'.F = G.F ∧
      AtR (E := E) G' (St.k { S with H := (id, Blk.drow e t xs hid) :: (hid, .hdr) :: S.H }) W (.own id) v ∧ ∀ k, k ∉ fp → Free cx G S k → Free cx G' { S with H := (id, .drow e t xs hid) :: (hid, .hdr) :: S.H } k := by
  cases d with
  | zero => exact h.elim
  | succ d =>
    -- the slice's block, its elements' blocks
    obtain ⟨g, cur, fps, hfpe, hv3, hrow⟩ : ∃ (g : Nat) (cur : Array Value) (fps : List (List Nat)), (∀ k, k ∈ fp ↔ (k = g ∧ 0 < capOf v) ∨ k ∈ fps.flatten) ∧ (∃ A n c, v = .slice A n c ∧ (0 < c → A = some ⟨g, 0, none⟩ ∧ n = xs.length)) ∧
        ((∃ A, v = .slice A 0 0 ∧ xs = [] ∧ fps.flatten = []) ∨ ∃ cap, v = .slice (some ⟨g, 0, none⟩) xs.length cap ∧ 0 < cap ∧ CellsAt W g cur e ∧ xs.length ≤ cap ∧ cap ≤ maxLen ∧ cap * tsz E t ≤ cur.size ∧ (g :: fps.flatten).Nodup ∧ DeepR E (DeepA E W d) t xs cur.toList fps) := by
      rcases h with ⟨A, rfl, rfl, rfl⟩ | ⟨g, cap, cur, fps, rfl, rfl, h3, h4, h5, h6, h7, h8⟩
      · exact ⟨0, #[], [], fun k => by simp [capOf], ⟨_, _, _, rfl, fun h => by omega⟩, .inl ⟨A, rfl, rfl, rfl⟩⟩
      · exact ⟨g, cur, fps, fun k => by simp [capOf, h3], ⟨_, _, _, rfl, fun _ => ⟨rfl, rfl⟩⟩, .inr ⟨cap, rfl, h3, h4, h5, h6, h7, hnd, h8⟩⟩
    obtain ⟨G1, i1, i2, i3, i4, i5, i6⟩ := hS.adoptHdr hh (inhOf cur (tsz E t)) fps.flatten
    have hn1 : St.h { S with H := (hid, (.hdr : Blk E)) :: S.H } id = none := by
      unfold St.h at hn ⊢
      simp only [lk_cons]
      rw [if_neg (fun e => hne e.symm)]
      exact hn
    -- the ghost state
    obtain ⟨G2, hE2, hF2, e1, e2, e3, e4, e5, e6⟩ : ∃ G2 : Gh, Ext G1 (St.k { S with H := (hid, (.hdr : Blk E)) :: S.H }) W G2 (St.k { S with H := (id, Blk.drow e t xs hid) :: (hid, .hdr) :: S.H }) W ∧ G2.F = G1.F ∧ G2.hd id = v ∧ G2.ln id = xs.length ∧ G2.sz id = tsz E t ∧ (0 < capOf v → G2.loc id = g) ∧ G2.inh hid = G1.inh hid ∧ G2.fp hid = G1.fp hid := by
      rcases hid' with hl | ⟨h1, h2, h3, h4⟩
      · have hl' : lk ((hid, (.hdr : Blk E)) :: S.H) id = none := by rw [lk_cons, if_neg (fun e => hne e.symm)]; exact hl
        exact ⟨G1.add id g v xs.length (tsz E t), Gh.add_ext (not_k (S := { S with H := (hid, (.hdr : Blk E)) :: S.H }) hl') (fun i hi => k_cons hi) (fun _ _ => rfl), rfl, updf_same _ _ _, updf_same _ _ _, updf_same _ _ _, fun _ => updf_same _ _ _, rfl, rfl⟩
      · by_cases hk : S.k id
        · refine ⟨G1, ext_self, rfl, (i2.hd id hk).trans h1, (i2.ln id hk).trans h2, (i2.sz id hk).trans h3, fun h0 => ?_, rfl, rfl⟩
          rw [i2.loc id hk]
          obtain ⟨o, ho⟩ := h4 h0
          obtain ⟨A, n, c, hv, hA⟩ := hv3
          have hc : 0 < c := by rw [hv] at h0; exact h0
          rw [hv, (hA hc).1] at ho
          injection ho with ho
          injection ho with ho
          injection ho with ho
          exact ho.symm
        · have hl : lk S.H id = none := by
            cases hl : lk S.H id with
            | none => rfl
            | some b => exact absurd (by unfold St.k; rw [hl]; rfl) hk
          have hl' : lk ((hid, (.hdr : Blk E)) :: S.H) id = none := by rw [lk_cons, if_neg (fun e => hne e.symm)]; exact hl
          exact ⟨G1.add id g v xs.length (tsz E t), Gh.add_ext (not_k (S := { S with H := (hid, (.hdr : Blk E)) :: S.H }) hl') (fun i hi => k_cons hi) (fun _ _ => rfl), rfl, updf_same _ _ _, updf_same _ _ _, updf_same _ _ _, fun _ => updf_same _ _ _, rfl, rfl⟩
    have ho : ∀ k, Occ (E := E) G2 id (.drow e t xs hid) k → k ∈ fp := by
      rintro k (⟨h1, h2⟩ | h1)
      · rw [e1] at h2
        exact (hfpe k).2 (.inl ⟨h1.trans (e4 h2), h2⟩)
      · rw [e6, i5] at h1
        exact (hfpe k).2 (.inr h1)
    have hblk : BlkR G2 (St.k { S with H := (id, Blk.drow e t xs hid) :: (hid, .hdr) :: S.H }) W id (.drow e t xs hid) := by
      refine ⟨k_cons k_cons_self, e2, e3, tsz_pos E t, ?_⟩
      rw [e1, e6, i5]
      rcases hrow with ⟨A, hv, hx, hf⟩ | ⟨cap, hv, k1, k2, k3, k4, k5, k6, k7⟩
      · exact .inl ⟨A, hv, hx, hf⟩
      · have hl : G2.loc id = g := e4 (by rw [hv]; exact k1)
        rw [hl]
        refine .inr ⟨cap, cur, d, fps, hv, k1, k2, k3, k4, k5, rfl, k6, k7, fun i c hi hc hsl => ?_⟩
        rw [e5, i4]
        obtain ⟨A, n, m, hsl⟩ := hsl
        rw [hsl]
        simp [inhOf, hsl]
    refine ⟨G2, i1.adopt hn1 hE2 hF2 hblk rfl (fun k hk => i6 k (hfree k (ho k hk))), i2.trans hE2, hF2.trans i3, ⟨by unfold St.k; simp [lk_cons], e1.symm, ?_⟩, fun k hk hf => (i6 k hf).cons i1 hE2 hF2 fun h => hk (ho k h)⟩
    obtain ⟨A, n, c, hv, _⟩ := hv3
    exact ⟨A, n, c, hv⟩
theorem mkRow_le (dp : Bool) (e : Nat) (t : Ty) (xs : List (Ty.D E.S t)) (fr : Nat) : fr < (mkRow E dp e t xs fr).2 := by
  unfold mkRow
  cases dp && !t.flat1 E <;> simp
theorem mkRow_key (dp : Bool) (e : Nat) (t : Ty) (xs : List (Ty.D E.S t)) (fr k : Nat) (hk : k < fr ∨ (mkRow E dp e t xs fr).2 ≤ k) : lk (mkRow E dp e t xs fr).1 k = none := by
  unfold mkRow at hk ⊢
  cases hc : dp && !t.flat1 E <;> simp only [hc, cond_true, cond_false, lk_cons] at hk ⊢
  · rw [if_neg (by omega)]; rfl
  · rw [if_neg (by omega), if_neg (by omega)]; rfl
theorem mkRow_sound (hS : Sim cx G S tm W) {dp : Bool} {fr : Nat} {e : Nat} {t : Ty} {xs : List (Ty.D E.S t)} {v : Value} {fp : List Nat} (h : OwnA E W G.F dp (.slice e t) xs v fp) (hfree : ∀ b ∈ fp, Free cx G S b) (hnew : ∀ k, fr ≤ k → k < (mkRow E dp e t xs fr).2 → lk S.H k = none) :
    ∃ G', Sim cx G' { S with H := (mkRow E dp e t xs fr).1 ++ S.H } tm W ∧ Ext G S.k W G' (St.k { S with H := (mkRow E dp e t xs fr).1 ++ S.H }) W ∧ G'.F = G.F ∧
      AtR (E := E) G' (St.k { S with H := (mkRow E dp e t xs fr).1 ++ S.H }) W (.own fr) v ∧ ∀ k, k ∉ fp → Free cx G S k → Free cx G' { S with H := (mkRow E dp e t xs fr).1 ++ S.H } k := by
  have h : RwA E W G.F (dp && !t.flat1 E) e t xs v fp := h
  unfold mkRow at hnew ⊢
  cases hc : dp && !t.flat1 E with
  | false =>
    rw [hc] at h hnew
    exact hS.adoptRow (hnew fr (Nat.le_refl _) (Nat.lt_succ_self _)) h hfree
  | true =>
    rw [hc] at h hnew
    obtain ⟨hnd, d, h⟩ := h
    have h0 : lk S.H fr = none := hnew fr (Nat.le_refl _) (by simp)
    have h1 : lk S.H (fr + 1) = none := hnew (fr + 1) (Nat.le_succ _) (by simp)
    exact hS.adoptD (id := fr) (hid := fr + 1) (by unfold St.h; rw [h0]) h1 (by omega) h hnd hfree (.inl h0)
theorem newAts_le (dp : Bool) : ∀ (ts : List Ty) (h : HT E.S ts) (fr : Nat), fr ≤ (newAts E dp ts h fr).2.2
  | [], _, _ => Nat.le_refl _
  | .slice e t :: ts, h, fr => Nat.le_trans (Nat.le_of_lt (mkRow_le dp e t h.1 fr)) (newAts_le dp ts h.2 _)
  | .rsl _ _ :: ts, h, fr => newAts_le dp ts h.2 fr
  | .int _ :: ts, h, fr => newAts_le dp ts h.2 fr
  | .bool :: ts, h, fr => newAts_le dp ts h.2 fr
  | .str :: ts, h, fr => newAts_le dp ts h.2 fr
  | .st _ :: ts, h, fr => newAts_le dp ts h.2 fr
  | .arr _ _ :: ts, h, fr => newAts_le dp ts h.2 fr
  | .pbx _ _ :: ts, h, fr => newAts_le dp ts h.2 fr
theorem newAts_key (dp : Bool) : ∀ (ts : List Ty) (h : HT E.S ts) (fr k : Nat), (k < fr ∨ (newAts E dp ts h fr).2.2 ≤ k) → lk (newAts E dp ts h fr).2.1 k = none
  | [], _, _, _, _ => rfl
  | .slice e t :: ts, h, fr, k, hk => by
    have h1 := mkRow_le dp e t h.1 fr
    have h2 := newAts_le dp ts h.2 (mkRow E dp e t h.1 fr).2
    simp only [newAts] at hk ⊢
    rw [lk_append, mkRow_key dp e t h.1 fr k (by omega)]
    exact newAts_key dp ts h.2 _ k (by omega)
  | .rsl _ _ :: ts, h, fr, k, hk => newAts_key dp ts h.2 fr k hk
  | .int _ :: ts, h, fr, k, hk => newAts_key dp ts h.2 fr k hk
  | .bool :: ts, h, fr, k, hk => newAts_key dp ts h.2 fr k hk
  | .str :: ts, h, fr, k, hk => newAts_key dp ts h.2 fr k hk
  | .st _ :: ts, h, fr, k, hk => newAts_key dp ts h.2 fr k hk
  | .arr _ _ :: ts, h, fr, k, hk => newAts_key dp ts h.2 fr k hk
  | .pbx _ _ :: ts, h, fr, k, hk => newAts_key dp ts h.2 fr k hk
theorem newAts_sound {dp : Bool} : ∀ {ts : List Ty} {h : HT E.S ts} {vs : List Value} {fp : List Nat} {fr : Nat}, (hS : Sim cx G S tm W) → OwnL E W G.F dp ts h vs fp → fp.Nodup → (∀ b ∈ fp, Free cx G S b) → (∀ k, fr ≤ k → k < (newAts E dp ts h fr).2.2 → lk S.H k = none) →
    ∃ G', Sim cx G' { S with H := (newAts E dp ts h fr).2.1 ++ S.H } tm W ∧ Ext G S.k W G' (St.k { S with H := (newAts E dp ts h fr).2.1 ++ S.H }) W ∧ G'.F = G.F ∧
      AtsR G' (St.k { S with H := (newAts E dp ts h fr).2.1 ++ S.H }) W (newAts E dp ts h fr).1 vs ∧ ∀ k, k ∉ fp → Free cx G S k → Free cx G' { S with H := (newAts E dp ts h fr).2.1 ++ S.H } k
  | [], _, _, _, _, hS, ho, _, _, _ => ⟨G, hS, Ext.refl _ _ _, rfl, ho.1, fun _ _ h => h⟩
  | t :: ts, h, vs, fp, fr, hS, ⟨v, r, f1, f2, hv, hfp, ha, hr⟩, hnd, hfree, hnew => by
    subst hfp
    obtain ⟨hn1, hn2, hdis⟩ := List.nodup_append.1 hnd
    have scalar : ∀ {c : At E}, f1 = [] → (∀ (G' : Gh) (K : Nat → Prop), (∀ b, G.F b → G'.F b) → AtR G' K W c v) → newAts E dp (t :: ts) h fr = (c :: (newAts E dp ts h.2 fr).1, (newAts E dp ts h.2 fr).2) →
        ∃ G', Sim cx G' { S with H := (newAts E dp (t :: ts) h fr).2.1 ++ S.H } tm W ∧ Ext G S.k W G' (St.k { S with H := (newAts E dp (t :: ts) h fr).2.1 ++ S.H }) W ∧ G'.F = G.F ∧
      AtsR G' (St.k { S with H := (newAts E dp (t :: ts) h fr).2.1 ++ S.H }) W (newAts E dp (t :: ts) h fr).1 vs ∧ ∀ k, k ∉ f1 ++ f2 → Free cx G S k → Free cx G' { S with H := (newAts E dp (t :: ts) h fr).2.1 ++ S.H } k := by
      intro c hf1 hc heq
      rw [heq] at hnew ⊢
      obtain ⟨G', i1, i2, i3, i4, i5⟩ := newAts_sound hS hr hn2 (fun b hb => hfree b (by simp [hb])) hnew
      exact ⟨G', i1, i2, i3, ⟨v, r, hv, hc _ _ (fun b hb => by rw [i3]; exact hb), i4⟩, fun k hk => i5 k (by simp at hk; exact hk.2)⟩
    cases t with
    | int k => exact scalar (c := .int k h.1) ha.2 (fun _ _ _ => ha.1) rfl
    | bool => exact scalar (c := .bool h.1) ha.2 (fun _ _ _ => ha.1) rfl
    | str => exact scalar (c := .str h.1) ha.2 (fun _ _ _ => ha.1) rfl
    | rsl e t =>
      obtain ⟨⟨d, hd⟩, hf1⟩ := ha
      exact scalar (c := .ro e t h.1) hf1 (fun _ _ hF => ⟨d, RoA.more hF (fun _ _ => rfl) d d (Nat.le_refl _) _ _ _ hd⟩) rfl
    | st n => exact ha.elim
    | arr k n => exact ha.elim
    | pbx b n => exact ha.elim
    | slice e t =>
      have hlt := mkRow_le dp e t h.1 fr
      have hle := newAts_le dp ts h.2 (mkRow E dp e t h.1 fr).2
      simp only [newAts] at hnew ⊢
      obtain ⟨G1, i1, i2, i3, i4, i5⟩ := newAts_sound hS hr hn2 (fun b hb => hfree b (by simp [hb])) (fun k h1 h2 => hnew k (by omega) h2)
      have ha1 : OwnA E W G1.F dp (.slice e t) h.1 v f1 := by rw [i3]; exact ha
      obtain ⟨G2, j1, j2, j3, j4, j5⟩ := mkRow_sound (fr := fr) i1 ha1 (fun b hb => i5 b (fun h2 => hdis b hb b h2 rfl) (hfree b (by simp [hb]))) (fun k h1 h2 => by
        show lk (_ ++ S.H) k = none
        rw [lk_append, newAts_key dp ts h.2 _ k (by omega)]; exact hnew k h1 (by omega))
      rw [List.append_assoc]
      exact ⟨G2, j1, i2.trans j2, j3.trans i3, ⟨v, r, hv, j4, AtsR.ext j2 i4⟩, fun k hk hf => j5 k (fun h => hk (by simp [h])) (i5 k (fun h => hk (by simp [h])) hf)⟩
end Mir
