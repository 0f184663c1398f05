/- The mirror machine: a call by its specification, whole. -/
import Derived.Test.YtbepkbaemapkjaaMir18
namespace Mir
set_option linter.unusedVariables false
set_option linter.unusedSimpArgs false
open Go
variable {E : Env} {P : Program} {T : Tb} {cx : Cx} {G G' : Gh} {S : St E} {tm : Array Value} {a : Act} {W W' : World}

/-! ### Rows that lead to no rows -/
theorem RoA.flat {F F' : Nat → Prop} {d : Nat} {t : Ty} {x : Ty.D E.S t} {v : Value} (hf : (match t with | .slice _ _ => false | .rsl _ _ => false | _ => true) = true) (h : RoA E W F d t x v) : RoA E W F' d t x v := by
  cases t with
  | slice e t => cases hf
  | rsl e t => cases hf
  | _ => cases d <;> exact h
theorem RoL.flat {F F' : Nat → Prop} {d : Nat} : ∀ {ts : List Ty} {x : HT E.S ts} {vs : List Value}, (ts.all fun | .slice _ _ => false | .rsl _ _ => false | _ => true) = true → RoL E (RoA E W F d) ts x vs → RoL E (RoA E W F' d) ts x vs
  | [], _, _, _, h => h
  | t :: ts, _, _, hf, ⟨v, r, hv, ha, hr⟩ => by
    simp only [List.all_cons, Bool.and_eq_true] at hf
    exact ⟨v, r, hv, ha.flat (by cases t <;> first | rfl | (exact hf.1)), hr.flat hf.2⟩
theorem RoE.flat {F F' : Nat → Prop} {d : Nat} {t : Ty} {x : Ty.D E.S t} {vs : List Value} (hf : t.flat1 E = true) (h : RoE E (RoA E W F d) t x vs) : RoE E (RoA E W F' d) t x vs := by
  cases t with
  | st n => exact RoL.flat hf h
  | slice e t => cases hf
  | rsl e t => cases hf
  | _ => obtain ⟨v, hv, h⟩ := h; exact ⟨v, hv, h.flat rfl⟩
theorem OwnA.flat {F F' : Nat → Prop} {dp : Bool} {e : Nat} {t : Ty} {x : Ty.D E.S (.slice e t)} {v : Value} {fp : List Nat} (hf : (t.flat1 E || dp) = true) (h : OwnA E W F dp (.slice e t) x v fp) : OwnA E W F' dp (.slice e t) x v fp := by
  have h : RwA E W F (dp && !t.flat1 E) e t x v fp := h
  show RwA E W F' (dp && !t.flat1 E) e t x v fp
  cases hc : dp && !t.flat1 E with
  | true => rw [hc] at h; exact h
  | false =>
    rw [hc] at h
    have hfl : t.flat1 E = true := by cases hd : dp <;> simp_all
    rcases h with h | ⟨g, cap, cur, d, h1, h2, h3, h4, h5, h6, h7, h8⟩
    · exact .inl h
    · exact .inr ⟨g, cap, cur, d, h1, h2, h3, h4, h5, h6, h7, fun i hi => (h8 i hi).flat hfl⟩
theorem OwnL.flat {F F' : Nat → Prop} {dp : Bool} : ∀ {ts : List Ty} {x : HT E.S ts} {vs : List Value} {fp : List Nat}, ((ts.all fun | .slice _ t => t.flat1 E | .rsl _ _ => false | _ => true) || (dp && (ts.all fun | .rsl _ _ => false | _ => true))) = true → OwnL E W F dp ts x vs fp → OwnL E W F' dp ts x vs fp
  | [], _, _, _, _, h => h
  | t :: ts, _, _, _, hf, ⟨v, r, f1, f2, hv, hfp, ha, hr⟩ => by
    simp only [List.all_cons, Bool.or_eq_true, Bool.and_eq_true] at hf
    refine ⟨v, r, f1, f2, hv, hfp, ?_, hr.flat (by
      rcases hf with hf | hf
      · simp [hf.2]
      · rw [hf.1]; simp [hf.2.2])⟩
    cases t with
    | slice e t =>
      refine OwnA.flat (F := F) ?_ ha
      rcases hf with hf | hf
      · have := hf.1; simp at this; simp [this]
      · simp [hf.1]
    | rsl e t =>
      rcases hf with hf | hf
      · exact absurd hf.1 (by simp)
      · exact absurd hf.2.1 (by simp)
    | _ => exact ha
theorem OwnE.flat {F F' : Nat → Prop} {dp : Bool} {t : Ty} {x : Ty.D E.S t} {v : Value} {fp : List Nat} (hf : noF E dp t = true) (h : OwnE E W F dp t x v fp) : OwnE E W F' dp t x v fp := by
  cases t with
  | st n => obtain ⟨vs, hv, h⟩ := h; exact ⟨vs, hv, OwnL.flat hf h⟩
  | slice e t =>
    refine OwnA.flat (F := F) ?_ h
    simpa [noF, flatRows, deepRows] using hf
  | rsl e t => simp [noF, flatRows, deepRows] at hf
  | pbx b n =>
    obtain ⟨g, vs, f, h1, h2, h3, h4⟩ := h
    exact ⟨g, vs, f, h1, h2, OwnL.flat hf h3, h4⟩
  | _ => exact h
theorem OwnEs.flat {F F' : Nat → Prop} {dp : Bool} : ∀ {ts : List Ty} {x : HT E.S ts} {vs : List Value} {fp : List Nat}, ts.all (noF E dp) = true → OwnEs E W F dp ts x vs fp → OwnEs E W F' dp ts x vs fp
  | [], _, _, _, _, h => h
  | t :: ts, _, _, _, hf, ⟨v, r, f1, f2, hv, hfp, ha, hr⟩ => by
    simp only [List.all_cons, Bool.and_eq_true] at hf
    exact ⟨v, r, f1, f2, hv, hfp, ha.flat hf.1, hr.flat hf.2⟩
theorem OutPs.flat {F F' : Nat → Prop} : ∀ {ps : List Par} {x : OT E ps} {vs : List Value} {fp : List Nat}, ps.all (Par.flat E) = true → OutPs E W F ps x vs fp → OutPs E W F' ps x vs fp
  | [], _, _, _, _, h => h
  | p :: ps, _, _, _, hf, ⟨v, r, f1, f2, hv, hfp, ha, hr⟩ => by
    simp only [List.all_cons, Bool.and_eq_true] at hf
    refine ⟨v, r, f1, f2, hv, hfp, ?_, hr.flat hf.2⟩
    cases p with
    | «mut» dp t => exact OwnE.flat hf.1 ha
    | box dp b n =>
      obtain ⟨g, vs, f, h1, h2, h3, h4⟩ := ha
      exact ⟨g, vs, f, h1, h2, OwnL.flat hf.1 h3, h4⟩
    | _ => exact ha
/-! ### Results that are only read -/
theorem roCv_sound {F : Nat → Prop} {G : Gh} {K : Nat → Prop} (hF : ∀ b, F b → G.F b) {t : Ty} {x : Ty.D E.S t} {v : Value} (h : RoV E W F t x v) : CvR G K W (toCv E t x) v := by
  cases t with
  | st n => obtain ⟨vs, d, rfl, h⟩ := h; exact ⟨vs, rfl, toAts_sound hF h⟩
  | slice e t => obtain ⟨d, h⟩ := h; exact toAt_sound (E := E) (K := K) hF h
  | int k => obtain ⟨d, h⟩ := h; exact toAt_sound (E := E) (K := K) (t := .int k) hF h
  | bool => obtain ⟨d, h⟩ := h; exact toAt_sound (E := E) (K := K) (t := .bool) hF h
  | str => obtain ⟨d, h⟩ := h; exact toAt_sound (E := E) (K := K) (t := .str) hF h
  | rsl e t => obtain ⟨d, h⟩ := h; exact toAt_sound (E := E) (K := K) (t := .rsl e t) hF h
  | arr k n => exact h
  | pbx b n => trivial
theorem roCvs_sound {F : Nat → Prop} {G : Gh} {K : Nat → Prop} (hF : ∀ b, F b → G.F b) : ∀ {ts : List Ty} {x : HT E.S ts} {vs : List Value}, RoVs E W F ts x vs → CvsR G K W (roCvs E ts x) vs
  | [], _, _, h => h
  | _ :: _, _, _, ⟨v, r, hv, ha, hr⟩ => ⟨v, r, hv, roCv_sound hF ha, roCvs_sound hF hr⟩
theorem tup_sound {G : Gh} {K : Nat → Prop} {xs : List (Cv E)} {vs : List Value} (h : CvsR G K W xs vs) : AVR G K W (tupOf xs) (tupV vs) := by
  match xs, h with
  | [], h => rw [CvsR] at h; subst h; exact ⟨[], rfl, rfl⟩
  | [x], ⟨v, r, hv, ha, hr⟩ => rw [CvsR] at hr; subst hr hv; exact ha
  | x :: y :: xs, h =>
    have h' := h
    obtain ⟨v, r, hv, ha, v2, r2, hv2, hr⟩ := h
    subst hv2 hv
    exact ⟨_, rfl, h'⟩
theorem lk_gones {m : List Nat} {i : Nat} {b : Blk E} (h : lk (m.map fun i => (i, (.gone : Blk E))) i = some b) : b = .gone ∧ i ∈ m := by
  have := lk_mem h
  simp only [List.mem_map, Prod.mk.injEq] at this
  obtain ⟨j, hj, rfl, rfl⟩ := this
  exact ⟨rfl, hj⟩
theorem lk_gones_none {m : List Nat} {i : Nat} (h : lk (m.map fun i => (i, (.gone : Blk E))) i = none) : i ∉ m := by
  intro hi
  have := mem_lk (U := m.map fun i => (i, (.gone : Blk E))) (i := i) (b := .gone) (List.mem_map.2 ⟨i, hi, rfl⟩)
  rw [h] at this; cases this
theorem meets_false {a b : List Nat} (h : meets a b = false) : ∀ i ∈ a, i ∉ b := by
  intro i hi hb
  have : meets a b = true := List.any_eq_true.2 ⟨i, hi, List.any_eq_true.2 ⟨i, hb, Nat.beq_refl i⟩⟩
  rw [h] at this; cases this
theorem h_gones {U : Up E} {m : List Nat} {i : Nat} (hi : i ∈ m) : St.h { S with H := (m.map fun i => (i, (.gone : Blk E))) ++ U ++ S.H } i = none := by
  unfold St.h
  simp only [List.append_assoc, lk_append]
  cases hl : lk (m.map fun i => (i, (.gone : Blk E))) i with
  | none => exact absurd hi (lk_gones_none hl)
  | some b => rw [(lk_gones hl).1]
theorem acall_sound (hS : Sim cx G S tm W) {s : Spec E} {f : FuncId} (hf : Sound P E f s) {fr lim : Nat} {vs : List (AV E)} {ws : List Value} (ha : AVsR G S.k W vs ws) {l l' : List Nat} {r : Res E} (h : RM.Out S.h (acall s fr lim vs) l r l') (hnew : ∀ k, fr ≤ k → k < lim → lk S.H k = none) :
    Calls P f ws.toArray W fun e W' => ∃ v G', e = .returned v ∧ Sim cx G' { S with H := r.2 ++ S.H } tm W' ∧ Ext G S.k W G' (St.k { S with H := r.2 ++ S.H }) W' ∧ AVR G' (St.k { S with H := r.2 ++ S.H }) W' r.1 v := by
  unfold acall at h
  obtain ⟨q, l1, hq, h⟩ := RM.Out_bind h
  have hb' := RM.Out_bif h; clear h; obtain ⟨hnd, h⟩ := hb'
  simp only [Bool.and_eq_true, Bool.not_eq_true', Bool.or_eq_true] at hnd
  obtain ⟨⟨⟨hmn, hum⟩, hbm⟩, hfb⟩ := hnd
  have hmn := nodupB_iff hmn
  have hum := meets_false hum
  have hbm := meets_false hbm
  obtain ⟨y, hy, h⟩ := h
  have hb' := RM.Out_bif h; clear h; obtain ⟨hroom, h⟩ := hb'
  have hroom := Nat.le_of_ble_eq_true hroom
  obtain rfl := h.1
  clear h
  -- what the callee may read
  let F0 : Nat → Prop := fun b => G.F b ∨ (∃ id c, (lk q.u id).isSome = true ∧ S.h id = some c ∧ Occ G id c b) ∨ ∃ id ∈ q.b, ∃ c, S.h id = some c ∧ Occ G id c b
  have hR : Reads G S F0 q.u q.b := ⟨fun k hk => .inl hk, fun id c hl hc k ho => .inr (.inl ⟨id, c, hl, hc, ho⟩), fun id hi c hc k ho => .inr (.inr ⟨id, hi, c, hc, ho⟩)⟩
  obtain ⟨hfrz, fp, hin, hhand⟩ := inp_sound hS ha hq hR
  have hmut := inp_mut hS hq
  have hfpn := hhand.nodup hmn
  have hblk := hhand.blks
  have hmw := hhand.wr
  have hum' : ∀ id, (lk q.u id).isSome = true → id ∉ q.m := by
    intro id hl
    obtain ⟨b, hl⟩ := Option.isSome_iff_exists.1 hl
    exact hum id (List.mem_map.2 ⟨_, lk_mem hl, rfl⟩)
  have hown0 : ∀ id c b, S.h id = some c → Occ G id c b → G.F b ∨ cx.W0.heap.size ≤ b ∨ cx.M b := fun id c b hc ho => by
    cases hz : c.fz with
    | true => exact .inl (hS.sepF _ c b hc ho hz)
    | false => exact .inr (hS.own _ c b hc ho hz)
  have hfpF : ∀ b ∈ fp, ¬ F0 b := by
    intro b hb
    obtain ⟨id, hid, c, hc, ho⟩ := hblk b hb
    obtain ⟨c', hc', hcz⟩ := hmw id hid
    rw [hc] at hc'; cases hc'
    rintro (h | ⟨j, c', hl, hc', ho'⟩ | ⟨j, hj, c', hc', ho'⟩)
    · exact hS.sep id c b hc ho hcz h
    · exact hum' j hl (hS.inj j id c' c b hc' hc ho' ho ▸ hid)
    · exact hbm j hj (hS.inj j id c' c b hc' hc ho' ho ▸ hid)
  have hFlt : ∀ b, F0 b → b < W.heap.size := by
    rintro b (h | ⟨j, c', hl, hc', ho'⟩ | ⟨j, hj, c', hc', ho'⟩)
    · exact hS.fr b h
    · exact ho'.lt (hS.blks _ _ hc')
    · exact ho'.lt (hS.blks _ _ hc')
  refine (hf.2 W _ q.x y ws fp hy hin hfpn hfpF hFlt).mono ?_
  rintro e W' ⟨v, rfl, hleft⟩
  obtain ⟨F', rs, fpR, fpO, rfl, hFF, hF', hres, hout, hnd2, hfree2⟩ := hleft.ex
  have hnob : s.fz = true → q.b = [] := fun hz => by
    rcases hfb with h | h
    · rw [hz] at h; cases h
    · simpa using h
  -- the state behind the call, all that was written gone
  have hbase : Sim cx { G with F := if s.fz then F' else G.F } { S with H := (q.m.map fun i => (i, (.gone : Blk E))) ++ (bif s.fz then q.u else []) ++ S.H } tm W' ∧
      Ext G S.k W { G with F := if s.fz then F' else G.F } (St.k { S with H := (q.m.map fun i => (i, (.gone : Blk E))) ++ (bif s.fz then q.u else []) ++ S.H }) W' := by
    have hkeepF : ∀ b, G.F b → W'.heap[b]? = W.heap[b]? := fun b hb => hleft.block b (hS.fr b hb) (fun h => hfpF b h (.inl hb))
    refine hS.after _ _ ?_ ⟨hleft.os.trans hS.frm.os, hleft.tape.trans hS.frm.tape, hleft.output.trans hS.frm.output, Nat.le_trans hS.frm.size hleft.size, fun b hb hm => ?_⟩ ?_ hkeepF ?_ ?_ ?_
    · intro id b hl
      rw [lk_append] at hl
      split at hl
      · rename_i b' hl'
        cases hl
        exact .inl (lk_gones hl').1
      · cases hz : s.fz with
        | false => rw [hz] at hl; cases hl
        | true => rw [hz] at hl; exact .inr (hfrz.keys id b hl)
    · rw [hleft.block b (Nat.lt_of_lt_of_le hb hS.frm.size) ?_]
      · exact hS.frm.block b hb hm
      · intro hfp
        obtain ⟨id, hid, c, hc, ho⟩ := hblk b hfp
        obtain ⟨c', hc', hcz⟩ := hmw id hid
        rw [hc] at hc'; cases hc'
        rcases hS.own id c b hc ho hcz with h | h
        · omega
        · exact hm h
    · intro b hb
      split
      · exact hFF b (.inl hb)
      · exact hb
    · intro b hb
      split at hb
      · exact (hF' b hb).2
      · exact Nat.lt_of_lt_of_le (hS.fr b hb) hleft.size
    · intro b hb
      split at hb
      · rcases (hF' b hb).1 with (h | ⟨j, c', hl, hc', ho'⟩ | ⟨j, hj, c', hc', ho'⟩) | h | h
        · exact .inl h
        · exact hown0 j c' b hc' ho'
        · exact hown0 j c' b hc' ho'
        · exact .inr (.inl (Nat.le_trans hS.frm.size h))
        · obtain ⟨id, hid, c, hc, ho⟩ := hblk b h
          exact hown0 id c b hc ho
      · exact .inl hb
    · intro id b b0 k hb h0 ho0
      have hidm : id ∉ q.m := fun h => by rw [h_gones h] at hb; cases hb
      -- the block as it was
      have hbb : b = b0 ∧ (s.fz = true → lk q.u id = none) ∨ (s.fz = true ∧ (lk q.u id).isSome = true ∧ b.fz = true) := by
        unfold St.h at hb
        simp only [List.append_assoc, lk_append] at hb
        cases hl : lk (q.m.map fun i => (i, (.gone : Blk E))) id with
        | some b' => exact absurd (lk_gones hl).2 hidm
        | none =>
          rw [hl] at hb
          have hb0' := h_lk h0
          cases hz : s.fz with
          | false =>
            rw [hz] at hb
            simp only [cond_false] at hb
            have : S.h id = some b := hb
            rw [h0] at this
            exact .inl ⟨(Option.some.inj this).symm, fun h => by cases h⟩
          | true =>
            rw [hz] at hb
            simp only [cond_true] at hb
            cases hu : lk q.u id with
            | none =>
              rw [hu] at hb
              have : S.h id = some b := hb
              rw [h0] at this
              exact .inl ⟨(Option.some.inj this).symm, fun _ => rfl⟩
            | some b' =>
              rw [hu] at hb
              obtain ⟨e, t, ys, rfl, h1⟩ := hfrz.keys id b' hu
              cases hb
              exact .inr ⟨rfl, rfl, rfl⟩
      have hkfp : k ∉ fp := fun h => by
        obtain ⟨id', hid', c, hc, ho'⟩ := hblk k h
        have := hS.inj id id' b0 c k h0 hc ho0 ho'
        exact hidm (this ▸ hid')
      have hklt : k < W.heap.size := ho0.lt (hS.blks id b0 h0)
      refine ⟨hleft.block k hklt hkfp, fun hz => ?_, fun hz => ?_⟩
      · rcases hbb with ⟨rfl, _⟩ | ⟨hsz, hl, _⟩
        · have := hS.sepF id b k h0 ho0 hz
          split
          · exact hFF k (.inl this)
          · exact this
        · rw [if_pos hsz]
          exact hFF k (.inr (.inl ⟨id, b0, hl, h0, ho0⟩))
      · rcases hbb with ⟨rfl, hlu⟩ | ⟨hsz, hl, hbz⟩
        · have hn := hS.sep id b k h0 ho0 hz
          split
          · rename_i hsz
            intro h
            rcases (hF' k h).1 with (h | ⟨j, c', hl, hc', ho'⟩ | ⟨j, hj, c', hc', ho'⟩) | h | h
            · exact hn h
            · have := hS.inj j id c' b k hc' h0 ho' ho0
              subst this
              rw [hlu hsz] at hl; cases hl
            · rw [hnob hsz] at hj; cases hj
            · omega
            · exact hkfp h
          · exact hn
        · rw [hz] at hbz; cases hbz
  obtain ⟨hS1, hE1⟩ := hbase
  generalize hS1d : ({ S with H := (q.m.map fun i => (i, (.gone : Blk E))) ++ (bif s.fz then q.u else []) ++ S.H } : St E) = S1 at hS1 hE1
  have hflat : s.fz = false → s.own = true ∧ s.rs.all (noF E s.dp) = true ∧ s.ps.all (Par.flat E) = true := by
    intro h
    unfold Spec.fz at h
    simp only [Bool.not_eq_false', Bool.and_eq_true] at h
    exact ⟨h.1.1, h.1.2, h.2⟩
  have hFsub : ∀ b, (if s.fz then F' else G.F) b → F' b := by
    intro b hb
    split at hb
    · exact hb
    · exact hFF b (.inl hb)
  -- blocks that come are free
  have hfree : ∀ b ∈ fpR ++ fpO, Free cx { G with F := if s.fz then F' else G.F } S1 b := by
    intro b hb
    obtain ⟨h1, h2⟩ := hfree2 b hb
    refine ⟨fun h => h1 (hFsub b h), ?_, ?_⟩
    · rcases h2 with h2 | h2
      · obtain ⟨id, hid, c, hc, ho⟩ := hblk b h2
        obtain ⟨c', hc', hcz⟩ := hmw id hid
        rw [hc] at hc'; cases hc'
        exact hS.own id c b hc ho hcz
      · exact .inl (Nat.le_trans hS.frm.size h2)
    · intro i c hc ho
      have hidm : i ∉ q.m := fun h => by rw [← hS1d, h_gones h] at hc; cases hc
      have : ∃ b0, S.h i = some b0 ∧ Occ G i b0 b := by
        rw [← hS1d] at hc
        unfold St.h at hc
        simp only [List.append_assoc, lk_append] at hc
        cases hl : lk (q.m.map fun i => (i, (.gone : Blk E))) i with
        | some b' => exact absurd (lk_gones hl).2 hidm
        | none =>
          rw [hl] at hc
          cases hz : s.fz with
          | false => rw [hz] at hc; exact ⟨c, hc, ho⟩
          | true =>
            rw [hz] at hc
            simp only [cond_true] at hc
            cases hu : lk q.u i with
            | none => rw [hu] at hc; exact ⟨c, hc, ho⟩
            | some b' =>
              rw [hu] at hc
              obtain ⟨e, t, ys, rfl, h3⟩ := hfrz.keys i b' hu
              cases hc
              rcases h3 with ⟨f, h3⟩ | ⟨hid, h3⟩
              · exact ⟨_, h3, ho⟩
              · exact ⟨_, h3, .inl ho⟩
      obtain ⟨b0, h0, ho0⟩ := this
      rcases h2 with h2 | h2
      · obtain ⟨id', hid', c', hc', ho'⟩ := hblk b h2
        exact hidm (hS.inj i id' b0 c' b h0 hc' ho0 ho' ▸ hid')
      · have := ho0.lt (hS.blks i b0 h0); omega
  have hout' : OutPs E W' (if s.fz then F' else G.F) s.ps (s.out y) ws fpO := by
    cases hz : s.fz with
    | true => simpa using hout
    | false => simpa using hout.flat (hflat hz).2.2
  obtain ⟨hnR, hnO, hdRO⟩ := List.nodup_append.1 hnd2
  have hkeys : ∀ k, fr ≤ k → k < lim → lk S1.H k = none := by
    intro k h1 h2
    have hk0 := hnew k h1 h2
    rw [← hS1d]
    simp only [List.append_assoc, lk_append]
    have hSk : ∀ b, S.h k = some b → False := fun b hb => by unfold St.h at hb; rw [hk0] at hb; cases hb
    cases hl : lk (q.m.map fun i => (i, (.gone : Blk E))) k with
    | some b' =>
      obtain ⟨c, hc, _⟩ := hmw k (lk_gones hl).2
      exact (hSk c hc).elim
    | none =>
      cases hz : s.fz with
      | false => exact hk0
      | true =>
        simp only [cond_true]
        cases hu : lk q.u k with
        | none => exact hk0
        | some b' =>
          obtain ⟨e, t, ys, _, h3⟩ := hfrz.keys k b' hu
          rcases h3 with ⟨f, h3⟩ | ⟨hid, h3⟩ <;> exact (hSk _ h3).elim
  have hgone : ∀ i ∈ q.m, S1.h i = none ∧ S1.k i := fun i hi => ⟨by rw [← hS1d]; exact h_gones hi, by
    obtain ⟨c, hc, _⟩ := hmw i hi
    exact hE1.K i (St.h_k hc)⟩
  cases hown : s.own with
  | true =>
    rw [hown] at hres hroom
    simp only [if_true, cond_true] at hres hroom ⊢
    have le1 := newCvs_le s.dp s.rs (s.res y) fr
    have le2 := outp_le s.ps (s.out y) vs (newCvs E s.dp s.rs (s.res y) fr).2.2
    obtain ⟨G2, i1, i2, i3, i4, i5⟩ := outp_sound (fr := (newCvs E s.dp s.rs (s.res y) fr).2.2) hS1 hout' hnO (fun b hb => hfree b (by simp [hb])) (MutPs.ext hE1 (fun i hi => by obtain ⟨c, hc, _⟩ := hmw i hi; exact St.h_k hc) hmut) ⟨W', AVsR.ext hE1 ha⟩ hmn hgone (fun k h1 h2 => hkeys k (by omega) (by omega))
    have hres' : OwnEs E W' G2.F s.dp s.rs (s.res y) rs fpR := by
      rw [i3]
      cases hz : s.fz with
      | true => simpa using hres
      | false => simpa using hres.flat (hflat hz).2.1
    obtain ⟨G3, j1, j2, j3, j4, j5⟩ := newCvs_sound (fr := fr) i1 hres' hnR (fun b hb => i4 b (fun h2 => hdRO b hb b h2 rfl) (hfree b (by simp [hb]))) (fun k h1 h2 => by
      show lk (_ ++ S1.H) k = none
      have : lk (outp E s.ps (s.out y) vs (newCvs E s.dp s.rs (s.res y) fr).2.2).1 k = none := i5 k (fun h => by
        obtain ⟨c, hc, _⟩ := hmw k h
        have := hnew k h1 (by omega)
        unfold St.h at hc; rw [this] at hc; cases hc) (.inl h2)
      rw [lk_append, this]
      exact hkeys k h1 (by omega))
    have hH : ∀ (A B C D : Up E), A ++ (B ++ (C ++ D)) ++ S.H = A ++ (B ++ (C ++ D ++ S.H)) := by intros; simp
    refine ⟨_, G3, rfl, ?_, ?_, ?_⟩
    · rw [hH]; rw [← hS1d] at j1; exact j1
    · have := (hE1.trans i2).trans j2
      rw [hH]; rw [← hS1d] at this; exact this
    · have := tup_sound j4
      rw [hH]; rw [← hS1d] at this; exact this
  | false =>
    rw [hown] at hres hroom
    simp only [cond_false, Bool.false_eq_true, if_false] at hres hroom ⊢
    have hz : s.fz = true := by unfold Spec.fz; rw [hown]; rfl
    obtain ⟨G2, i1, i2, i3, i4, i5⟩ := outp_sound (fr := fr) hS1 hout' hnO (fun b hb => hfree b (by simp [hb])) (MutPs.ext hE1 (fun i hi => by obtain ⟨c, hc, _⟩ := hmw i hi; exact St.h_k hc) hmut) ⟨W', AVsR.ext hE1 ha⟩ hmn hgone (fun k h1 h2 => hkeys k (by omega) (by omega))
    have hH : ∀ (B C D : Up E), [] ++ (B ++ (C ++ D)) ++ S.H = B ++ (C ++ D ++ S.H) := by intros; simp
    have hFs : ∀ b, F' b → G2.F b := fun b hb => by rw [i3]; show (if s.fz then F' else G.F) b; rw [if_pos hz]; exact hb
    refine ⟨_, G2, rfl, ?_, ?_, ?_⟩
    · rw [hH]; rw [← hS1d] at i1; exact i1
    · have := hE1.trans i2
      rw [hH]; rw [← hS1d] at this; exact this
    · exact tup_sound (roCvs_sound hFs hres.1)
end Mir
