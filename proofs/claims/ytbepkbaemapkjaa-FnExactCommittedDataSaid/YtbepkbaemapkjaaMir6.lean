/- The mirror machine: operations that turn memory. -/
import Derived.Test.YtbepkbaemapkjaaMir5
import Derived.Laws.MakeOwn
namespace Mir
set_option linter.unusedVariables false
set_option linter.unusedSimpArgs false
open Go
variable {E : Env} {P : Program} {T : Tb} {cx : Cx} {G G' : Gh} {S : St E} {tm : Array Value} {a : Act} {W W' : World}

/-! ### States that are written -/
theorem lk_append {α : Type} (U H : List (Nat × α)) (i : Nat) : lk (U ++ H) i = match lk U i with | some b => some b | none => lk H i := by
  induction U with
  | nil => rfl
  | cons p U ih =>
    obtain ⟨j, b⟩ := p
    simp only [List.cons_append, lk]
    cases h : Nat.beq j i with
    | true => rfl
    | false => simpa using ih
theorem lk_cons {α : Type} (j : Nat) (b : α) (H : List (Nat × α)) (i : Nat) : lk ((j, b) :: H) i = if j = i then some b else lk H i := by
  simp only [lk]
  by_cases h : j = i
  · subst h; simp [show Nat.beq j j = true from Nat.beq_refl j]
  · have : Nat.beq j i = false := by
      cases hb : Nat.beq j i with
      | true => exact absurd (Nat.eq_of_beq_eq_true hb) h
      | false => rfl
    simp [this, h]
theorem DeepL.same {DA DB : DAT E} (H : ∀ t x v fp, (∀ k ∈ fp, W'.heap[k]? = W.heap[k]?) → DA t x v fp → DB t x v fp) : ∀ {ts : List Ty} {h : HT E.S ts} {vs : List Value} {fp : List Nat}, (∀ k ∈ fp, W'.heap[k]? = W.heap[k]?) → DeepL E DA ts h vs fp → DeepL E DB ts h vs fp
  | [], _, _, _, _, h => h
  | _ :: _, _, _, _, hW, ⟨v, r, f1, f2, hv, hf, ha, hr⟩ => ⟨v, r, f1, f2, hv, hf, H _ _ _ _ (fun k hk => hW k (by rw [hf]; simp [hk])) ha, DeepL.same H (fun k hk => hW k (by rw [hf]; simp [hk])) hr⟩
theorem DeepE.same {DA DB : DAT E} (H : ∀ t x v fp, (∀ k ∈ fp, W'.heap[k]? = W.heap[k]?) → DA t x v fp → DB t x v fp) {t : Ty} {x : Ty.D E.S t} {vs : List Value} {fp : List Nat} (hW : ∀ k ∈ fp, W'.heap[k]? = W.heap[k]?) (h : DeepE E DA t x vs fp) : DeepE E DB t x vs fp := by
  cases t with
  | st n => exact DeepL.same H hW h
  | _ => obtain ⟨v, hv, h⟩ := h; exact ⟨v, hv, H _ _ _ _ hW h⟩
theorem DeepR.same {DA DB : DAT E} (H : ∀ t x v fp, (∀ k ∈ fp, W'.heap[k]? = W.heap[k]?) → DA t x v fp → DB t x v fp) {t : Ty} {xs : List (Ty.D E.S t)} {cs : List Value} {fps : List (List Nat)} (hW : ∀ k ∈ fps.flatten, W'.heap[k]? = W.heap[k]?) (h : DeepR E DA t xs cs fps) : DeepR E DB t xs cs fps :=
  ⟨h.1, fun i hi => (h.2 i hi).same H fun k hk => hW k (by
    have hi' : i < fps.length := by rw [h.1]; exact hi
    rw [List.getD_eq_getElem?_getD, List.getElem?_eq_getElem hi'] at hk
    exact List.mem_flatten.2 ⟨_, List.getElem_mem hi', hk⟩)⟩
theorem DeepA.same : ∀ (d d' : Nat), d ≤ d' → ∀ (t : Ty) (x : Ty.D E.S t) (v : Value) (fp : List Nat), (∀ k ∈ fp, W'.heap[k]? = W.heap[k]?) → DeepA E W d t x v fp → DeepA E W' d' t x v fp := by
  intro d
  induction d with
  | zero => intro d' _ t x v fp _ h; cases t <;> cases d' <;> first | exact h | exact h.elim
  | succ d ih =>
    intro d' hd t x v fp hW h
    cases d' with
    | zero => omega
    | succ d' =>
      cases t with
      | slice e t =>
        rcases h with h | ⟨g, cap, cur, fps, h1, rfl, h3, h4, h5, h6, h7, h8⟩
        · exact .inl h
        · exact .inr ⟨g, cap, cur, fps, h1, rfl, h3, h4.congr (hW g (by simp)), h5, h6, h7, h8.same (fun t x v fp hk h => ih d' (by omega) t x v fp hk h) (fun k hk => hW k (by simp [hk]))⟩
      | _ => exact h
theorem DeepH.same {DA DB : DAT E} (H : ∀ t x v fp, (∀ k ∈ fp, W'.heap[k]? = W.heap[k]?) → DA t x v fp → DB t x v fp) : ∀ {ts : List Ty} {h : HT E.S ts} {vs : List Value} {c : Nat} {fp : List Nat}, (∀ k ∈ fp, W'.heap[k]? = W.heap[k]?) → DeepH E DA ts h vs c fp → DeepH E DB ts h vs c fp
  | [], _, _, _, _, _, h => h.elim
  | _ :: _, _, _, 0, _, hW, ⟨v, r, hv, ht, hr⟩ => ⟨v, r, hv, ht, DeepL.same H hW hr⟩
  | _ :: _, _, _, c + 1, _, hW, ⟨v, r, f1, f2, hv, hf, ha, hr⟩ => ⟨v, r, f1, f2, hv, hf, H _ _ _ _ (fun k hk => hW k (by rw [hf]; simp [hk])) ha, DeepH.same H (fun k hk => hW k (by rw [hf]; simp [hk])) hr⟩
def HidK (K : Nat → Prop) : Blk E → Prop
  | .drow _ _ _ hid => K hid
  | .hole _ _ _ hid _ _ => K hid
  | _ => True
theorem Ext.occ {K K' : Nat → Prop} (hE : Ext G K W G' K' W') {id : Nat} (hk : K id) {b : Blk E} (hh : HidK K b) {k : Nat} : Occ G' id b k ↔ Occ G id b k := by
  cases b with
  | drow e t xs hid => simp [Occ, hE.loc id hk, hE.hd id hk, hE.fp hid hh]
  | hole e n xs hid i c => simp [Occ, hE.loc id hk, hE.fp hid hh]
  | _ => simp [Occ, hE.loc id hk, hE.hd id hk]
theorem BlkR.hid {K : Nat → Prop} {id : Nat} {b : Blk E} (h : BlkR G K W id b) : HidK K b := by
  cases b with
  | drow e t xs hid => exact h.1
  | hole e n xs hid i c => exact h.1
  | _ => trivial
theorem BlkR.ext {K K' : Nat → Prop} (hE : Ext G K W G' K' W') {id : Nat} (hk : K id) {b : Blk E} (hb : BlkR G K W id b) (hW : ∀ k, Occ G id b k → W'.heap[k]? = W.heap[k]?) : BlkR G' K' W' id b := by
  cases b with
  | gone => exact hb.elim
  | hdr => trivial
  | mp k t es =>
    obtain ⟨l, clock, h1, h2, h3⟩ := hb
    refine ⟨l, clock, by rw [hE.loc id hk, hW _ rfl]; exact h1, h2, fun i h h' => ⟨(h3 i h h').1, ?_⟩⟩
    obtain ⟨vs, d, h4, h5⟩ := (h3 i h h').2
    exact ⟨vs, d, h4, h5.mono fun t x v => RoA.more hE.F hE.W d d (Nat.le_refl _) t x v⟩
  | rbx cells =>
    obtain ⟨vs, hr, hf, hc⟩ := hb
    refine ⟨vs, hr.ext hE, fun h0 => by rw [hE.loc id hk]; exact hE.F _ (hf h0), fun j hj => ?_⟩
    rw [hE.loc id hk, World.cell?_of_block (w := W) (w' := W') (a := ⟨G.loc id, j, none⟩) (hE.W _ (hf (by omega)))]
    exact hc j hj
  | drow e t xs hid =>
    obtain ⟨h0, h1, h2, h3, h⟩ := hb
    refine ⟨hE.K _ h0, by rw [hE.ln id hk]; exact h1, by rw [hE.sz id hk]; exact h2, h3, ?_⟩
    rw [hE.hd id hk, hE.loc id hk, hE.fp hid h0, hE.inh hid h0]
    rcases h with h | ⟨cap, cur, d, fps, hhd, hc, hh, i1, i2, i3, hfp, hnd, hr, hin⟩
    · exact .inl h
    · refine .inr ⟨cap, cur, d, fps, hhd, hc, ?_, i1, i2, i3, hfp, hnd, hr.same (fun t x v fp hk h => DeepA.same d d (Nat.le_refl _) t x v fp hk h) (fun k hk => hW k (.inr (by rw [hfp]; exact hk))), hin⟩
      exact hh.congr (hW _ (.inl ⟨rfl, by rw [hhd]; exact hc⟩))
  | hole e n xs hid i c =>
    obtain ⟨h0, h1, h2, h3, hi, cap, cur, d, fps, hhd, hc, hh, i1, i2, i3, hfp, hnd, hl, hcell, k1, k2⟩ := hb
    have hget : ∀ j, ∀ k ∈ fps.getD j [], k ∈ fps.flatten := fun j k hk => by
      by_cases hj : j < fps.length
      · rw [List.getD_eq_getElem?_getD, List.getElem?_eq_getElem hj] at hk
        exact List.mem_flatten.2 ⟨_, List.getElem_mem hj, hk⟩
      · rw [List.getD_eq_getElem?_getD, List.getElem?_eq_none (by omega)] at hk
        cases hk
    have hW2 : ∀ k ∈ fps.flatten, W'.heap[k]? = W.heap[k]? := fun k hk => hW k (.inr (by rw [hfp]; exact hk))
    refine ⟨hE.K _ h0, by rw [hE.ln id hk]; exact h1, by rw [hE.sz id hk]; exact h2, h3, hi, cap, cur, d, fps, ?_, hc, ?_, i1, i2, i3, ?_, ?_, hl, ?_, fun j hj hne => (k1 j hj hne).same (fun t x v fp hk h => DeepA.same d d (Nat.le_refl _) t x v fp hk h) (fun k hk => hW2 k (hget j k hk)), k2.same (fun t x v fp hk h => DeepA.same d d (Nat.le_refl _) t x v fp hk h) (fun k hk => hW2 k (hget i k hk))⟩
    · rw [hE.hd id hk, hE.loc id hk]; exact hhd
    · rw [hE.loc id hk]; exact hh.congr (hW _ (.inl rfl))
    · rw [hE.fp hid h0]; exact hfp
    · rw [hE.loc id hk]; exact hnd
    · rw [hE.inh hid h0]; exact hcell
  | box t cells =>
    obtain ⟨vs, h, hr⟩ := hb
    exact ⟨vs, by rw [hE.loc id hk, hW _ rfl]; exact h, hr.ext hE⟩
  | arr t k n xs =>
    obtain ⟨h1, h2, h3, h⟩ := hb
    exact ⟨h1, by rw [hE.ln id hk]; exact h2, by rw [hE.sz id hk]; exact h3, by rw [hE.loc id hk, hW _ rfl]; exact h⟩
  | row e t xs f =>
    obtain ⟨h1, h2, h3, h⟩ := hb
    refine ⟨by rw [hE.ln id hk]; exact h1, by rw [hE.sz id hk]; exact h2, h3, ?_⟩
    rw [hE.hd id hk, hE.loc id hk]
    rcases h with h | ⟨cap, cur, d, hhd, hc, hh, h⟩
    · exact .inl h
    · refine .inr ⟨cap, cur, d, hhd, hc, ?_, h.1, h.2.1, h.2.2.1, fun i hi => ?_⟩
      · exact hh.congr (hW _ ⟨rfl, by rw [hhd]; exact hc⟩)
      · exact (h.2.2.2 i hi).mono fun t x v => RoA.more hE.F hE.W d d (Nat.le_refl _) t x v
theorem Sim.upd (hS : Sim cx G S tm W) (U : Up E) (hE : Ext G S.k W G' (St.k { S with H := U ++ S.H }) W') (hfrm : Frm cx W') (hsize : W.heap.size ≤ W'.heap.size)
    (hnew : ∀ id b, lk U id = some b → (b = .gone ∨ BlkR G' (St.k { S with H := U ++ S.H }) W' id b))
    (hkeep : ∀ id b k, lk U id = none → S.h id = some b → Occ G id b k → W'.heap[k]? = W.heap[k]?)
    (hsrc : ∀ id b k, lk U id = some b → Occ G' id b k → W.heap.size ≤ k ∨ ∃ id0 b0, S.h id0 = some b0 ∧ Occ G id0 b0 k ∧ (b0.fz = false ∨ b.fz = true) ∧ (lk U id0).isSome = true)
    (hinj : ∀ i j bi bj k, lk U i = some bi → lk U j = some bj → Occ G' i bi k → Occ G' j bj k → i = j)
    (hF : ∀ k, G'.F k → G.F k ∨ (W.heap.size ≤ k ∧ k < W'.heap.size) ∨ (∃ id b, lk U id = some b ∧ b.fz = true ∧ Occ G' id b k) ∨ ∃ id b, S.h id = some b ∧ Occ G id b k ∧ (lk U id).isSome = true)
    (hFU : ∀ id b k, lk U id = some b → Occ G' id b k → (b.fz = true → G'.F k) ∧ (b.fz = false → ¬ G'.F k)) :
    Sim cx G' { S with H := U ++ S.H } tm W' := by
  have hh : ∀ id b, St.h { S with H := U ++ S.H } id = some b → (lk U id = some b ∧ b ≠ .gone) ∨ (lk U id = none ∧ S.h id = some b) := by
    intro id b h
    unfold St.h at h
    simp only [lk_append] at h
    cases hu : lk U id with
    | none => rw [hu] at h; exact .inr ⟨rfl, h⟩
    | some b' =>
      rw [hu] at h
      cases b' <;> cases h <;> exact .inl ⟨rfl, by simp⟩
  have hbad : ∀ id b k, lk U id = none → S.h id = some b → Occ G id b k → ∀ id' b', lk U id' = some b' → Occ G' id' b' k → False := by
    intro id b k hn hb ho id' b' hu ho'
    rcases hsrc id' b' k hu ho' with h | ⟨id0, b0, h0, ho0, _, hs⟩
    · have := ho.lt (hS.blks id b hb); omega
    · have := hS.inj id0 id b0 b k h0 hb ho0 ho
      subst this
      rw [hn] at hs; cases hs
  refine ⟨hS.sz, fun s v h => (hS.tmps s v h).ext hE, ?_, ?_, ?_, ?_, ?_, ?_, hfrm, fun b hb => hE.F b (hS.ff.1 b hb), ?_⟩
  · intro id b h
    rcases hh id b h with ⟨hu, hg⟩ | ⟨hn, hb⟩
    · exact (hnew id b hu).resolve_left hg
    · exact (hS.blks id b hb).ext hE (St.h_k hb) (fun k hk => hkeep id b k hn hb hk)
  · intro i j bi bj k hi hj hoi hoj
    rcases hh i bi hi with ⟨hui, _⟩ | ⟨hni, hbi⟩ <;> rcases hh j bj hj with ⟨huj, _⟩ | ⟨hnj, hbj⟩
    · exact hinj i j bi bj k hui huj hoi hoj
    · exact (hbad j bj k hnj hbj ((hE.occ (St.h_k hbj) (hS.blks _ _ hbj).hid).1 hoj) i bi hui hoi).elim
    · exact (hbad i bi k hni hbi ((hE.occ (St.h_k hbi) (hS.blks _ _ hbi).hid).1 hoi) j bj huj hoj).elim
    · exact hS.inj i j bi bj k hbi hbj ((hE.occ (St.h_k hbi) (hS.blks _ _ hbi).hid).1 hoi) ((hE.occ (St.h_k hbj) (hS.blks _ _ hbj).hid).1 hoj)
  · intro id b k h ho hf
    rcases hh id b h with ⟨hu, _⟩ | ⟨hn, hb⟩
    · exact (hFU id b k hu ho).1 hf
    · exact hE.F _ (hS.sepF id b k hb ((hE.occ (St.h_k hb) (hS.blks _ _ hb).hid).1 ho) hf)
  · intro id b k h ho hf
    rcases hh id b h with ⟨hu, _⟩ | ⟨hn, hb⟩
    · exact (hFU id b k hu ho).2 hf
    · have ho := (hE.occ (St.h_k hb) (hS.blks _ _ hb).hid).1 ho
      intro hk
      rcases hF k hk with h | h | ⟨id', b', hu', _, ho'⟩ | ⟨id', b', hb', ho', hs'⟩
      · exact hS.sep id b k hb ho hf h
      · have := ho.lt (hS.blks id b hb); omega
      · exact hbad id b k hn hb ho id' b' hu' ho'
      · have := hS.inj id' id b' b k hb' hb ho' ho
        subst this
        rw [hn] at hs'; cases hs'
  · intro id b k h ho hf
    rcases hh id b h with ⟨hu, _⟩ | ⟨hn, hb⟩
    · rcases hsrc id b k hu ho with h | ⟨id0, b0, h0, ho0, hz, _⟩
      · exact .inl (Nat.le_trans hS.frm.size h)
      · rcases hz with hz | hz
        · exact hS.own id0 b0 k h0 ho0 hz
        · rw [hf] at hz; cases hz
    · exact hS.own id b k hb ((hE.occ (St.h_k hb) (hS.blks _ _ hb).hid).1 ho) hf
  · intro k hk
    rcases hF k hk with h | h | ⟨id, b, hu, hz, ho⟩ | ⟨id, b, hb, ho, _⟩
    · exact Nat.lt_of_lt_of_le (hS.fr k h) hsize
    · exact h.2
    · rcases hnew id b hu with h | h
      · subst h; exact ho.elim
      · exact ho.lt h
    · exact Nat.lt_of_lt_of_le (ho.lt (hS.blks id b hb)) hsize
  · intro k hk
    have own : ∀ id0 b0, S.h id0 = some b0 → Occ G id0 b0 k → cx.F0 k ∨ cx.W0.heap.size ≤ k ∨ cx.M k := fun id0 b0 h0 ho0 => by
      cases hz0 : b0.fz with
      | true => exact hS.ff.2 k (hS.sepF id0 b0 k h0 ho0 hz0)
      | false => exact .inr (hS.own id0 b0 k h0 ho0 hz0)
    rcases hF k hk with h | h | ⟨id, b, hu, hz, ho⟩ | ⟨id, b, hb, ho, _⟩
    · exact hS.ff.2 k h
    · exact .inr (.inl (Nat.le_trans hS.frm.size h.1))
    · rcases hsrc id b k hu ho with h | ⟨id0, b0, h0, ho0, _, _⟩
      · exact .inr (.inl (Nat.le_trans hS.frm.size h))
      · exact own id0 b0 h0 ho0
    · exact own id b hb ho
theorem k_append {U : Up E} {id : Nat} (h : S.k id) : St.k { S with H := U ++ S.H } id := by
  unfold St.k at *
  simp only [lk_append]
  cases lk U id with
  | none => exact h
  | some b => rfl
theorem Frm.alloc (h : Frm cx W) (o : Obj) : Frm cx (W.alloc o) :=
  ⟨h.os, h.tape, h.output, Nat.le_trans h.size (by simp), fun b hb hm => by rw [heap_alloc_old W o b (Nat.lt_of_lt_of_le hb h.size)]; exact h.block b hb hm⟩
def updf {α : Type} (f : Nat → α) (i : Nat) (v : α) : Nat → α := fun j => if j = i then v else f j
theorem updf_same {α : Type} (f : Nat → α) (i : Nat) (v : α) : updf f i v i = v := by simp [updf]
theorem updf_ne {α : Type} (f : Nat → α) {i j : Nat} (v : α) (h : j ≠ i) : updf f i v j = f j := by simp [updf, h]
/-- The ghost state with one block more. -/
def Gh.add (G : Gh) (fr loc : Nat) (hd : Value) (ln sz : Nat) : Gh := { loc := updf G.loc fr loc, hd := updf G.hd fr hd, ln := updf G.ln fr ln, sz := updf G.sz fr sz, inh := G.inh, fp := G.fp, F := G.F }
theorem Gh.add_ext {fr loc ln sz : Nat} {hd : Value} {K K' : Nat → Prop} (hfr : ¬ K fr) (hK : ∀ i, K i → K' i) (hW : ∀ b, G.F b → W'.heap[b]? = W.heap[b]?) : Ext G K W (G.add fr loc hd ln sz) K' W' := by
  have hne : ∀ i, K i → i ≠ fr := fun i hi e => hfr (e ▸ hi)
  exact ⟨fun i hi => updf_ne _ _ (hne i hi), fun i hi => updf_ne _ _ (hne i hi), fun i hi => updf_ne _ _ (hne i hi), fun i hi => updf_ne _ _ (hne i hi), fun _ _ => rfl, fun _ _ => rfl, hK, fun b hb => hb, hW⟩
theorem not_k {fr : Nat} (hf : lk S.H fr = none) : ¬ S.k fr := by unfold St.k; rw [hf]; simp

/-- A new block of the state's own. -/
theorem Sim.alloc (hS : Sim cx G S tm W) {fr : Nat} (hf : lk S.H fr = none) (b : Blk E) (cs : Array Value) (t : TypeId) (hd : Value) (ln sz : Nat) (hfz : b.fz = false) (hdr : (∀ e t xs hid, b ≠ .drow e t xs hid) ∧ ∀ e n xs hid i c, b ≠ .hole e n xs hid i c)
    (hb : ∀ (K' : Nat → Prop), (∀ i, S.k i → K' i) → Ext G S.k W (G.add fr W.heap.size hd ln sz) K' (W.alloc (.cells cs t)) → BlkR (G.add fr W.heap.size hd ln sz) K' (W.alloc (.cells cs t)) fr b) :
    Sim cx (G.add fr W.heap.size hd ln sz) { S with H := [(fr, b)] ++ S.H } tm (W.alloc (.cells cs t)) ∧ Ext G S.k W (G.add fr W.heap.size hd ln sz) (St.k { S with H := [(fr, b)] ++ S.H }) (W.alloc (.cells cs t)) := by
  have hE : Ext G S.k W (G.add fr W.heap.size hd ln sz) (St.k { S with H := [(fr, b)] ++ S.H }) (W.alloc (.cells cs t)) :=
    Gh.add_ext (not_k hf) (fun i hi => k_append hi) (fun b hb => heap_alloc_old W _ b (hS.fr b hb))
  refine ⟨hS.upd [(fr, b)] hE (hS.frm.alloc _) (by simp) ?_ ?_ ?_ ?_ ?_ ?_, hE⟩
  · intro id b' h
    rw [lk_cons] at h
    split at h
    · cases h; subst_vars; exact .inr (hb _ (fun i hi => k_append hi) hE)
    · cases h
  · intro id b' k _ hb' ho
    exact heap_alloc_old W _ k (ho.lt (hS.blks id b' hb'))
  · intro id b' k h ho
    rw [lk_cons] at h
    split at h
    · cases h; subst_vars
      refine .inl ?_
      have : k = W.heap.size := by
        cases b <;> simp [Occ, Gh.add, updf_same] at ho
        · exact ho
        · exact ho
        · exact ho.1
        · exact absurd rfl (hdr.1 _ _ _ _)
        · exact absurd rfl (hdr.2 _ _ _ _ _ _)
        · exact ho
      omega
    · cases h
  · intro i j bi bj k hi hj _ _
    rw [lk_cons] at hi hj
    split at hi
    · split at hj
      · subst_vars; rfl
      · cases hj
    · cases hi
  · intro k hk; exact .inl hk
  · intro id b' k h ho
    rw [lk_cons] at h
    split at h
    · cases h; subst_vars
      refine ⟨fun hz => (by rw [hfz] at hz; cases hz), fun _ hk => ?_⟩
      have hlt := hS.fr k hk
      have : k = W.heap.size := by
        cases b <;> simp [Occ, Gh.add, updf_same] at ho
        · exact ho
        · exact ho
        · exact ho.1
        · exact absurd rfl (hdr.1 _ _ _ _)
        · exact absurd rfl (hdr.2 _ _ _ _ _ _)
        · exact ho
      omega
    · cases h
/-- A block of the state's own is written. -/
theorem Sim.write (hS : Sim cx G S tm W) {id k0 : Nat} {b0 b : Blk E} (hb0 : S.h id = some b0) (ho0 : Occ G id b0 k0) (hz0 : b0.fz = false) (hz : b.fz = false)
    (hocc : ∀ k, Occ G id b k → k = k0) (hW : ∀ k, k ≠ k0 → W'.heap[k]? = W.heap[k]?) (hsz : W'.heap.size = W.heap.size) (hfr : W'.os = W.os ∧ W'.tape = W.tape ∧ W'.output = W.output)
    (hb : ∀ (K' : Nat → Prop), (∀ i, S.k i → K' i) → Ext G S.k W G K' W' → BlkR G K' W' id b) :
    Sim cx G { S with H := [(id, b)] ++ S.H } tm W' ∧ Ext G S.k W G (St.k { S with H := [(id, b)] ++ S.H }) W' := by
  have hnF : ¬ G.F k0 := hS.sep id b0 k0 hb0 ho0 hz0
  have hE : Ext G S.k W G (St.k { S with H := [(id, b)] ++ S.H }) W' :=
    ⟨fun _ _ => rfl, fun _ _ => rfl, fun _ _ => rfl, fun _ _ => rfl, fun _ _ => rfl, fun _ _ => rfl, fun i hi => k_append hi, fun _ h => h, fun b hb => hW b (fun e => hnF (e ▸ hb))⟩
  have hown := hS.own id b0 k0 hb0 ho0 hz0
  refine ⟨hS.upd [(id, b)] hE ⟨hfr.1.trans hS.frm.os, hfr.2.1.trans hS.frm.tape, hfr.2.2.trans hS.frm.output, by rw [hsz]; exact hS.frm.size, fun k hk hm => ?_⟩ (by omega) ?_ ?_ ?_ ?_ ?_ ?_, hE⟩
  · rw [hW k (fun e => by subst e; rcases hown with h | h; · omega
                          · exact hm h)]
    exact hS.frm.block k hk hm
  · intro i b' h
    rw [lk_cons] at h
    split at h
    · cases h; subst_vars; exact .inr (hb _ (fun i hi => k_append hi) hE)
    · cases h
  · intro i b' k hn hb' ho
    refine hW k (fun e => ?_)
    subst e
    have := hS.inj i id b' b0 k hb' hb0 ho ho0
    subst this
    rw [lk_cons] at hn; simp at hn
  · intro i b' k h ho
    rw [lk_cons] at h
    split at h
    · cases h; subst_vars
      refine .inr ⟨_, b0, hb0, ?_, .inl hz0, by rw [lk_cons]; simp⟩
      rw [hocc k ho]; exact ho0
    · cases h
  · intro i j bi bj k hi hj _ _
    rw [lk_cons] at hi hj
    split at hi
    · split at hj
      · subst_vars; rfl
      · cases hj
    · cases hi
  · intro k hk; exact .inl hk
  · intro i b' k h ho
    rw [lk_cons] at h
    split at h
    · cases h; subst_vars
      exact ⟨fun h => (by rw [hz] at h; cases h), fun _ => (by rw [hocc k ho]; exact hnF)⟩
    · cases h
/-- A row is frozen. -/
theorem Sim.freeze (hS : Sim cx G S tm W) {id : Nat} {e : Nat} {t : Ty} {xs : List (Ty.D E.S t)} {f : Bool} (hb0 : S.h id = some (.row e t xs f)) :
    ∃ F' : Nat → Prop, Sim cx { G with F := F' } { S with H := [(id, .row e t xs true)] ++ S.H } tm W ∧ (∀ k, G.F k → F' k) ∧ (∀ k, Occ G id (.row e t xs f) k → F' k) := by
  let F' : Nat → Prop := fun k => G.F k ∨ Occ G id (.row e t xs f) k
  have hE : Ext G S.k W { G with F := F' } (St.k { S with H := [(id, .row e t xs true)] ++ S.H }) W :=
    ⟨fun _ _ => rfl, fun _ _ => rfl, fun _ _ => rfl, fun _ _ => rfl, fun _ _ => rfl, fun _ _ => rfl, fun i hi => k_append hi, fun _ h => .inl h, fun _ _ => rfl⟩
  refine ⟨F', hS.upd _ hE hS.frm (Nat.le_refl _) ?_ ?_ ?_ ?_ ?_ ?_, fun k hk => .inl hk, fun k hk => .inr hk⟩
  · intro i b' h
    rw [lk_cons] at h
    split at h
    · cases h; subst_vars
      have := (hS.blks _ _ hb0).ext hE (St.h_k hb0) (fun _ _ => rfl)
      exact .inr this
    · cases h
  · intro _ _ _ _ _ _; rfl
  · intro i b' k h ho
    rw [lk_cons] at h
    split at h
    · cases h; subst_vars
      exact .inr ⟨_, _, hb0, ho, .inr rfl, by rw [lk_cons]; simp⟩
    · cases h
  · intro i j bi bj k hi hj _ _
    rw [lk_cons] at hi hj
    split at hi
    · split at hj
      · subst_vars; rfl
      · cases hj
    · cases hi
  · intro k hk
    rcases hk with hk | hk
    · exact .inl hk
    · exact .inr (.inr (.inl ⟨id, .row e t xs true, by rw [lk_cons]; simp, rfl, hk⟩))
  · intro i b' k h ho
    rw [lk_cons] at h
    split at h
    · cases h; subst_vars
      exact ⟨fun _ => .inr ho, fun h => (by cases h)⟩
    · cases h
/-! ### Data that own their rows, as data that are read -/
theorem DeepL.ro {F : Nat → Prop} {DA : DAT E} {RA : RAT E} (H : ∀ t x v fp, (∀ k ∈ fp, F k) → DA t x v fp → RA t x v) : ∀ {ts : List Ty} {h : HT E.S ts} {vs : List Value} {fp : List Nat}, (∀ k ∈ fp, F k) → DeepL E DA ts h vs fp → RoL E RA ts h vs
  | [], _, _, _, _, h => h.1
  | _ :: _, _, _, _, hF, ⟨v, r, f1, f2, hv, hf, ha, hr⟩ => ⟨v, r, hv, H _ _ _ _ (fun k hk => hF k (by rw [hf]; simp [hk])) ha, DeepL.ro H (fun k hk => hF k (by rw [hf]; simp [hk])) hr⟩
theorem DeepE.ro {F : Nat → Prop} {DA : DAT E} {RA : RAT E} (H : ∀ t x v fp, (∀ k ∈ fp, F k) → DA t x v fp → RA t x v) {t : Ty} {x : Ty.D E.S t} {vs : List Value} {fp : List Nat} (hF : ∀ k ∈ fp, F k) (h : DeepE E DA t x vs fp) : RoE E RA t x vs := by
  cases t with
  | st n => exact DeepL.ro H hF h
  | _ => obtain ⟨v, hv, h⟩ := h; exact ⟨v, hv, H _ _ _ _ hF h⟩
theorem DeepR.at {DA : DAT E} {t : Ty} {xs : List (Ty.D E.S t)} {cs : List Value} {fps : List (List Nat)} (h : DeepR E DA t xs cs fps) {i : Nat} (hi : i < xs.length) {F : Nat → Prop} (hF : ∀ k ∈ fps.flatten, F k) : ∀ k ∈ fps.getD i [], F k := by
  intro k hk
  have hi' : i < fps.length := by rw [h.1]; exact hi
  rw [List.getD_eq_getElem?_getD, List.getElem?_eq_getElem hi'] at hk
  exact hF k (List.mem_flatten.2 ⟨_, List.getElem_mem hi', hk⟩)
theorem cell_seg {g e cap sz : Nat} {cur : Array Value} {n i : Nat} (hh : CellsAt W g cur e) (hi : i < n) (hn : n ≤ cap) (hcur : cap * sz ≤ cur.size) (j : Nat) (hj : j < ((cur.toList.drop (i * sz)).take sz).length) :
    W.cell? ((⟨g, 0, none⟩ : Addr).add (i * sz + j)) = some ((cur.toList.drop (i * sz)).take sz)[j] := by
  rw [hh.cell _ _ rfl]
  have hj' : j < sz ∧ i * sz + j < cur.size := by
    simp only [List.length_drop, List.length_take, Array.length_toList] at hj
    constructor
    · omega
    · have : (i + 1) * sz ≤ cap * sz := Nat.mul_le_mul_right _ (by omega)
      rw [Nat.add_mul] at this
      omega
  rw [Nat.zero_add, Array.getElem?_eq_getElem (by omega)]
  simp
theorem DeepA.ro {F : Nat → Prop} : ∀ {d : Nat} {t : Ty} {x : Ty.D E.S t} {v : Value} {fp : List Nat}, (∀ k ∈ fp, F k) → DeepA E W d t x v fp → RoA E W F d t x v := by
  intro d
  induction d with
  | zero => intro t x v fp hF h; cases t <;> first | exact h.1 | exact h.elim
  | succ d ih =>
    intro t x v fp hF h
    cases t with
    | slice e t =>
      rcases h with ⟨A, hv, rfl, _⟩ | ⟨g, cap, cur, fps, hv, rfl, hc, hh, h5, h6, h7, h8⟩
      · exact ⟨A, 0, hv, Nat.le_refl _, fun h => absurd h (by simp)⟩
      · refine ⟨_, cap, hv, h5, fun h0 => ⟨_, rfl, hF g (by simp), fun i hi => ⟨_, (h8.2 i hi).ro (fun t x v fp hF h => ih hF h) (h8.at hi fun k hk => hF k (by simp [hk])), fun j hj => cell_seg hh hi h5 h7 j hj⟩⟩⟩
    | int _ => exact h.1
    | bool => exact h.1
    | str => exact h.1
    | st _ => exact h.elim
    | arr _ _ => exact h.elim
    | rsl _ _ => exact h.elim
    | pbx _ _ => exact h.elim
/-- A deep row is frozen, with all that it owns. -/
theorem Sim.freezeD (hS : Sim cx G S tm W) {id : Nat} {e : Nat} {t : Ty} {xs : List (Ty.D E.S t)} {hid : Nat} (hb0 : S.h id = some (.drow e t xs hid)) :
    ∃ F' : Nat → Prop, Sim cx { G with F := F' } { S with H := [(id, .row e t xs true)] ++ S.H } tm W ∧ (∀ k, G.F k → F' k) ∧ (∀ k, Occ G id (.drow e t xs hid) k → F' k) := by
  let F' : Nat → Prop := fun k => G.F k ∨ Occ G id (.drow e t xs hid) k
  have hE : Ext G S.k W { G with F := F' } (St.k { S with H := [(id, .row e t xs true)] ++ S.H }) W :=
    ⟨fun _ _ => rfl, fun _ _ => rfl, fun _ _ => rfl, fun _ _ => rfl, fun _ _ => rfl, fun _ _ => rfl, fun i hi => k_append hi, fun _ h => .inl h, fun _ _ => rfl⟩
  have hB := hS.blks id _ hb0
  refine ⟨F', hS.upd _ hE hS.frm (Nat.le_refl _) ?_ ?_ ?_ ?_ ?_ ?_, fun k hk => .inl hk, fun k hk => .inr hk⟩
  · intro i b' h
    rw [lk_cons] at h
    split at h
    · cases h; subst_vars
      obtain ⟨_, h1, h2, h3, h⟩ := hB
      refine .inr ⟨h1, h2, h3, ?_⟩
      rcases h with ⟨A, hA, hn, _⟩ | ⟨cap, cur, d, fps, hhd, hc, hh, i1, i2, i3, hfp, hnd, hr, _⟩
      · exact .inl ⟨A, hA, hn⟩
      · exact .inr ⟨cap, cur, d, hhd, hc, hh, i1, i2, i3, fun i hi => (hr.2 i hi).ro (fun t x v fp hF h => DeepA.ro hF h) (hr.at hi fun k hk => .inr (.inr (by rw [hfp]; exact hk)))⟩
    · cases h
  · intro _ _ _ _ _ _; rfl
  · intro i b' k h ho
    rw [lk_cons] at h
    split at h
    · cases h; subst_vars
      exact .inr ⟨_, _, hb0, .inl ho, .inr rfl, by rw [lk_cons]; simp⟩
    · cases h
  · intro i j bi bj k hi hj _ _
    rw [lk_cons] at hi hj
    split at hi
    · split at hj
      · subst_vars; rfl
      · cases hj
    · cases hi
  · intro k hk
    rcases hk with hk | hk
    · exact .inl hk
    · exact .inr (.inr (.inr ⟨id, _, hb0, hk, by rw [lk_cons]; simp⟩))
  · intro i b' k h ho
    rw [lk_cons] at h
    split at h
    · cases h; subst_vars
      exact ⟨fun _ => .inr (.inl ho), fun h => (by cases h)⟩
    · cases h
end Mir
