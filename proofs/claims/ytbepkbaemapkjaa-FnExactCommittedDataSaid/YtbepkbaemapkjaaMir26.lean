/- The mirror machine: a function does what its specification says. -/
import Derived.Test.YtbepkbaemapkjaaMir25
namespace Mir
set_option linter.unusedVariables false
set_option linter.unusedSimpArgs false
open Go
variable {E : Env} {P : Program} {T : Tb} {Γ : Ctx E} {cx : Cx} {G G' : Gh} {S : St E} {tm : Array Value} {a : Act} {W W' : World}

def resF (tm : Array Value) : ResultVar → Sem Value
  | .tmp t => pure (tm.getD t undef)
  | .cell p t => do loadVar t (← asAddr (tm.getD p undef))
theorem resOf_sound (hT : T.OK P) (hS : Sim cx G S a.tmps W) {rv : ResultVar} {l l' : List Nat} {v : Cv E} (h : RM.Out S.h (resOf T (lk S.ρ) rv) l v l') :
    ∃ w, (resF a.tmps rv).run P W = .ok w W ∧ CvR G S.k W v w := by
  cases rv with
  | tmp t =>
    simp only [resOf] at h
    split at h
    · rename_i v' hv
      obtain rfl := h.1
      exact ⟨_, rfl, hS.tmps t _ hv⟩
    · exact h.elim
  | cell p t =>
    obtain ⟨r, l1, h1, h⟩ := RM.Out_bind (show RM.Out S.h ((aLoad T t (lk S.ρ p)).bind fun r => match r.1 with | .c v => .pure v | _ => .fail) l v l' from h)
    obtain ⟨ad, h2, w, h3, h4, _⟩ := load_soundP (x := .tmp p) hT hS h1
    split at h
    · rename_i v' hv
      obtain rfl := h.1
      rw [hv] at h4
      refine ⟨w, ?_, h4⟩
      have h2 : a.tmps.getD p undef = .pointer (some ad) := h2
      simp only [resF, h2, asAddr]
      simpa using h3
    · exact h.elim
theorem resAll_sound (hT : T.OK P) (hS : Sim cx G S a.tmps W) : ∀ {rs : List ResultVar} {l l' : List Nat} {vs : List (Cv E)}, RM.Out S.h (resAll T (lk S.ρ) rs) l vs l' →
    ∃ ws : List Value, (rs.mapM (resF a.tmps)).run P W = .ok ws W ∧ CvsR G S.k W vs ws
  | [], _, _, vs, h => by obtain rfl := h.1; exact ⟨[], rfl, rfl⟩
  | rv :: rs, _, _, vs, h => by
    obtain ⟨v, l1, h1, h⟩ := RM.Out_bind h
    obtain ⟨vs', l2, h2, h⟩ := RM.Out_bind h
    obtain rfl := h.1
    obtain ⟨w, i1, i2⟩ := resOf_sound hT hS h1
    obtain ⟨ws, j1, j2⟩ := resAll_sound hT hS h2
    refine ⟨w :: ws, ?_, ⟨w, ws, rfl, i2, j2⟩⟩
    rw [List.mapM_cons, Sem.run_bind, i1]
    simp [j1]
theorem results_sound (hT : T.OK P) (hS : Sim cx G S a.tmps W) {fn : Func} {l l' : List Nat} {vs : List (Cv E)} (h : RM.Out S.h (resAll T (lk S.ρ) fn.results.toList) l vs l') :
    ∃ ws : List Value, (results fn a.tmps).run P W = .ok (tupV ws) W ∧ CvsR G S.k W vs ws := by
  obtain ⟨ws, h1, h2⟩ := resAll_sound hT hS h
  refine ⟨ws, ?_, h2⟩
  unfold results
  change ((do let vs ← fn.results.mapM (resF a.tmps); pure (if h : vs.size = 1 then vs[0] else .tuple vs) : Sem Value)).run P W = _
  rw [Array.mapM_eq_mapM_toList]
  simp only [bind_map_left, Sem.run_bind, h1]
  match ws with
  | [] => rfl
  | [x] => rfl
  | x :: y :: r => simp [tupV]
theorem pins_mem : ∀ {ps : List Par} {s t : Nat}, t ∈ pins ps s → s ≤ t ∧ t < s + ps.length
  | [], _, _, h => by cases h
  | p :: ps, s, t, h => by
    simp only [pins] at h
    cases hb : p.back with
    | true =>
      rw [hb, cond_true] at h
      rcases List.mem_cons.1 h with rfl | h
      · simp
      · have := pins_mem (ps := ps) h; simp only [List.length_cons]; omega
    | false =>
      rw [hb, cond_false] at h
      have := pins_mem (ps := ps) h; simp only [List.length_cons]; omega
theorem endP_sound (hS : Sim cx G S tm W) {F : Nat → Prop} (hF : ∀ b, G.F b → F b) {p : Par} {s : Nat} {w : Value} {l l' : List Nat} {q : p.O E × List Nat} (hp : p.back = true → tm.getD s undef = w) (h : RM.Out S.h (endP E p (lk S.ρ s)) l q l') :
    ∃ fp, OutP E W F p q.1 w fp ∧ Hand G S q.2 fp := by
  cases p with
  | val t => obtain rfl := h.1; exact ⟨[], rfl, Hand.nil⟩
  | clo f caps => obtain rfl := h.1; exact ⟨[], rfl, Hand.nil⟩
  | cap c => obtain rfl := h.1; exact ⟨[], rfl, Hand.nil⟩
  | mov dp t => obtain rfl := h.1; exact ⟨[], rfl, Hand.nil⟩
  | movb dp b n => obtain rfl := h.1; exact ⟨[], rfl, Hand.nil⟩
  | «mut» dp t =>
    have hw := hp rfl
    cases hv : lk S.ρ s with
    | none => rw [hv] at h; exact h.elim
    | some v =>
      rw [hv] at h
      cases v with
      | c v =>
        obtain ⟨d, l1, h1, h⟩ := RM.Out_bind h
        obtain ⟨m, l2, h2, h⟩ := RM.Out_bind h
        obtain rfl := h.1
        have hvr := hS.tmps s _ hv
        rw [hw] at hvr
        exact ownCv_sound hS hF hvr h1 h2
      | _ => exact h.elim
  | box dp b n =>
    have hw := hp rfl
    have hid : ∃ id, lk S.ρ s = some (.c (.at (.ptr id 0))) := by
      cases hv : lk S.ρ s with
      | none => rw [hv] at h; exact h.elim
      | some v =>
        rw [hv] at h
        cases v with
        | c v =>
          cases v with
          | «at» x =>
            cases x with
            | ptr id o =>
              cases o with
              | zero => exact ⟨id, rfl⟩
              | succ o => exact h.elim
            | _ => exact h.elim
          | _ => exact h.elim
        | _ => exact h.elim
    obtain ⟨id, hv⟩ := hid
    rw [hv] at h
    obtain ⟨c, hb, h⟩ := h
    dsimp only at h
    split at h
    · rename_i t cells
      have hb' := RM.Out_bif h; clear h; obtain ⟨ht, h⟩ := hb'
      obtain rfl := Nat.eq_of_beq_eq_true ht
      obtain ⟨d, l1, h1, h⟩ := RM.Out_bind h
      obtain ⟨m, l2, h2, h⟩ := RM.Out_bind h
      obtain rfl := h.1
      have hvr := hS.tmps s _ hv
      rw [hw] at hvr
      obtain ⟨us, hus, hr'⟩ := hS.blks id _ hb
      obtain ⟨f1, j1, j2⟩ := ownAll_sound hS hF hr' h1 h2
      have hself : Hand G S [id] [G.loc id] := Hand.one hb rfl (by simp) fun k hk => by rw [List.mem_singleton] at hk; exact hk
      exact ⟨G.loc id :: f1, ⟨G.loc id, us, f1, hvr.2, hus, by rw [E.opn_shut]; exact j1, rfl⟩, hself.app hS j2⟩
    · exact h.elim
theorem ends_sound (hS : Sim cx G S tm W) {F : Nat → Prop} (hF : ∀ b, G.F b → F b) : ∀ {ps : List Par} {s : Nat} {ws : List Value} {l l' : List Nat} {q : OT E ps × List Nat}, ws.length = ps.length → (∀ t ∈ pins ps s, tm.getD t undef = ws.getD (t - s) undef) → RM.Out S.h (ends E (lk S.ρ) ps s) l q l' →
    ∃ fp, OutPs E W F ps q.1 ws fp ∧ Hand G S q.2 fp
  | [], s, ws, _, _, q, hl, _, h => by
    obtain rfl := h.1
    exact ⟨[], ⟨List.eq_nil_of_length_eq_zero hl, rfl⟩, Hand.nil⟩
  | p :: ps, s, [], _, _, _, hl, _, _ => by simp at hl
  | p :: ps, s, w :: ws, _, _, q, hl, hp, h => by
    obtain ⟨a, l1, h1, h⟩ := RM.Out_bind h
    obtain ⟨q', l2, h2, h⟩ := RM.Out_bind h
    obtain rfl := h.1
    obtain ⟨f1, i1, i2⟩ := endP_sound hS hF (w := w) (fun hb => by rw [hp s (by simp [pins, hb])]; simp) h1
    obtain ⟨f2, j1, j2⟩ := ends_sound hS hF (s := s + 1) (ws := ws) (by simpa using hl) (fun t ht => by
      have := (pins_mem ht).1
      rw [hp t (by simp only [pins]; cases p.back <;> simp [ht]), show t - s = t - (s + 1) + 1 by omega]; simp) h2
    exact ⟨f1 ++ f2, ⟨w, ws, f1, f2, rfl, rfl, i1, j1⟩, i2.app hS j2⟩
theorem InPs.length {F : Nat → Prop} : ∀ {ps : List Par} {x : IT E ps} {ws : List Value} {fp : List Nat}, InPs E W F ps x ws fp → ws.length = ps.length
  | [], _, _, _, h => by rw [h.1]; rfl
  | _ :: _, _, _, _, ⟨v, r, f1, f2, hv, _, _, hr⟩ => by rw [hv, List.length_cons, List.length_cons, hr.length]
theorem idsCv_of {v : Cv E} {x : At E} (hx : x ∈ v.cells) {id : Nat} (hi : id ∈ idsAt x) : id ∈ idsCv v := by
  cases v with
  | «at» y =>
    simp only [Cv.cells, List.mem_singleton] at hx
    subst hx
    exact hi
  | agg xs => exact List.mem_flatMap.2 ⟨_, hx, hi⟩
  | arr k n xs =>
    simp only [Cv.cells, List.mem_map] at hx
    obtain ⟨y, _, rfl⟩ := hx
    cases hi
theorem fin_sound (hT : T.OK P) {F : Nat → Prop} {W0 : World} {fp : List Nat} {args : List Value} {fn : Func} {s : Spec E} {r : s.R} (hlen : args.length = s.ps.length) {nx : Nat} (hI : Inv ⟨(· ∈ fp), W0, F⟩ args.toArray nx S a W) (hpin : S.pin = pins s.ps 0) {l : List Nat} (h : RM.Out S.h (finR T fn s S) [] r l) :
    ∃ v, (results fn a.tmps).run P W = .ok v W ∧ Left E s r W0 F args fp v W := by
  obtain ⟨G, hS⟩ := hI.sim
  obtain ⟨vs, l1, h1, h⟩ := RM.Out_bind h
  obtain ⟨d, l2, h2, h⟩ := RM.Out_bind h
  obtain ⟨q, l3, h3, h⟩ := RM.Out_bind h
  obtain ⟨ws, hres, hvs⟩ := results_sound hT hS h1
  have hpins : ∀ t ∈ pins s.ps 0, a.tmps.getD t undef = args.getD (t - 0) undef := by
    intro t ht
    rw [hI.pin t (by rw [hpin]; exact ht)]
    simp [List.getD_eq_getElem?_getD]
  have base : ∀ (F' : Nat → Prop) (fpR fpO : List Nat), (∀ b, G.F b → F' b) → (∀ b, F' b → (F b ∨ W0.heap.size ≤ b ∨ b ∈ fp) ∧ b < W.heap.size) → (if s.own then OwnEs E W F' s.dp s.rs (s.res r) ws fpR else (RoVs E W F' s.rs (s.res r) ws ∧ fpR = [])) → OutPs E W F' s.ps (s.out r) args fpO → (fpR ++ fpO).Nodup → (∀ b ∈ fpR ++ fpO, ¬ F' b ∧ (b ∈ fp ∨ W0.heap.size ≤ b)) →
      Left E s r W0 F args fp (tupV ws) W := fun F' fpR fpO k1 k2 k3 k4 k5 k6 =>
    ⟨⟨F', ws, fpR, fpO, rfl, fun b hb => k1 b (hS.ff.1 b hb), k2, k3, k4, k5, k6⟩, hS.frm.os, hS.frm.tape, hS.frm.output, hS.frm.size, hS.frm.block⟩
  refine ⟨tupV ws, hres, ?_⟩
  have hff : ∀ b, G.F b → (F b ∨ W0.heap.size ≤ b ∨ b ∈ fp) ∧ b < W.heap.size := fun b hb => ⟨hS.ff.2 b hb, hS.fr b hb⟩
  have hblk : ∀ {ms fps : List Nat}, Hand G S ms fps → ∀ b ∈ fps, ∃ i ∈ ms, ∃ c, S.h i = some c ∧ Occ G i c b ∧ c.fz = false := by
    intro ms fps hb b hbm
    obtain ⟨i, hi, c, hc, ho⟩ := hb.blks b hbm
    obtain ⟨c', hc', hz⟩ := hb.wr i hi
    rw [hc] at hc'; cases hc'
    exact ⟨i, hi, c, hc, ho, hz⟩
  cases hown : s.own with
  | true =>
    rw [hown] at h
    obtain ⟨ms, l4, h4, h⟩ := RM.Out_bind h
    have hb' := RM.Out_bif h; clear h; obtain ⟨hnd, h⟩ := hb'
    obtain rfl := h.1
    have hnd := nodupB_iff hnd
    obtain ⟨fpR, i1, i2⟩ := ownCvs_sound hS (F := G.F) (fun _ h => h) hvs h2 h4
    obtain ⟨fpO, j1, j2⟩ := ends_sound hS (F := G.F) (fun _ h => h) hlen hpins h3
    have i3 := i2.app hS j2
    refine base G.F fpR fpO (fun _ h => h) hff (by rw [if_pos hown, s.res_shut]; exact i1) (by rw [s.out_shut]; exact j1) (i3.nodup hnd) fun b hb => ?_
    obtain ⟨i, hi, c, hc, ho, hz⟩ := hblk i3 b hb
    exact ⟨hS.sep i c b hc ho hz, (hS.own i c b hc ho hz).symm⟩
  | false =>
    rw [hown] at h
    have hb' := RM.Out_bif h; clear h; obtain ⟨hnd, h⟩ := hb'
    obtain rfl := h.1
    simp only [Bool.and_eq_true, Bool.not_eq_true', List.all_eq_true] at hnd
    have hmeet := meets_false hnd.1.2
    let F' : Nat → Prop := fun b => G.F b ∨ ∃ id ∈ vs.flatMap idsCv, ∃ c, S.h id = some c ∧ Occ G id c b
    have hF' : ∀ b, G.F b → F' b := fun b h => .inl h
    obtain ⟨fpO, j1, j2⟩ := ends_sound hS (F := F') hF' hlen hpins h3
    have hin : ∀ v ∈ vs, ∀ x ∈ v.cells, InF G S F' x := by
      intro v hv x hx
      have key : ∀ id ∈ idsAt x, ∀ b k, S.h id = some b → Occ G id b k → F' k := fun id hi b k hb ho => .inr ⟨id, List.mem_flatMap.2 ⟨v, hv, idsCv_of hx hi⟩, b, hb, ho⟩
      cases x with
      | own id => exact fun b k hb ho => key id (by simp [idsAt]) b k hb ho
      | sub id o l => exact fun b k hb ho => key id (by simp [idsAt]) b k hb ho
      | inn id hid i c => exact fun b k hb ho => key id (by simp [idsAt]) b k hb ho
      | _ => trivial
    refine base F' [] fpO hF' (fun b hb => ?_) (by rw [if_neg (by rw [hown]; simp), s.res_shut]; exact ⟨ofCvs_rov hS hF' (fun v hv => okCv_all (hnd.2 v hv)) hvs hin h2, rfl⟩) (by rw [s.out_shut]; exact j1) (j2.nodup (nodupB_iff hnd.1.1)) fun b hb => ?_
    · rcases hb with hb | ⟨id, hid, c, hc, ho⟩
      · exact hff b hb
      · refine ⟨?_, ho.lt (hS.blks id c hc)⟩
        cases hz : c.fz with
        | true => exact hS.ff.2 b (hS.sepF id c b hc ho hz)
        | false => exact .inr (hS.own id c b hc ho hz)
    · obtain ⟨i, hi, c, hc, ho, hz⟩ := hblk j2 b hb
      refine ⟨?_, (hS.own i c b hc ho hz).symm⟩
      rintro (h | ⟨id, hid, c', hc', ho'⟩)
      · exact hS.sep i c b hc ho hz h
      · have := hS.inj id i c' c b hc' hc ho' ho
        subst this
        exact hmeet id hid hi

theorem run_callFunc_go {f : FuncId} {fn : Func} {c : Code} (hf : P.funcs[f]? = some fn) (hname : (fn.name == "runtime.NumGoroutine") = false) (hb : fn.body = some c) (args : Array Value) (w : World) : (callFunc f args).run P w = .ok (.enter f args) w := by
  simp [callFunc, hf, show fn.name ≠ "runtime.NumGoroutine" by simpa using hname, hb]
/-- A function's code, as the mirror machine runs it, does what the specification says. -/
theorem sound (hT : T.OK P) (hΓ : GamOK P Γ) (hmix : P.follows .mixedOrders = true) {f : FuncId} {fn : Func} {c : Code} (hf : P.funcs[f]? = some fn) (hb : fn.body = some c) (hname : (fn.name == "runtime.NumGoroutine") = false) (s : Spec E) (hn : s.ps.length ≤ fn.ntmps) (loops cuts : Live)
    (h : ∀ x r, s.fn x = some r → ∃ k d, runF T Γ loops cuts fn c s (orc T Γ loops cuts k d) x = some r) : Sound P E f s := by
  refine ⟨fun args W => ?_, ?_⟩
  · exact run_callFunc_go hf hname hb args W
  intro W F x r args fp hfn hin hnd hfF hFlt
  obtain ⟨k, d, hrun⟩ := h x r hfn
  have hlen := hin.length
  let cx : Cx := ⟨(· ∈ fp), W, F⟩
  let tm : Array Value := args.toArray ++ Array.replicate (fn.ntmps - args.toArray.size) undef
  have htm : ∀ t, tm.getD t undef = args.toArray.getD t undef := by
    intro t
    rw [Array.getD_eq_getD_getElem?, Array.getD_eq_getD_getElem?]
    by_cases ht : t < args.length
    · rw [Array.getElem?_append_left (by simpa using ht)]
    · rw [Array.getElem?_append_right (by simp; omega), Array.getElem?_eq_none (xs := args.toArray) (by simp; omega)]
      rw [Array.getElem?_replicate]
      split <;> rfl
  let S0 : St E := { ρ := [], H := [], nx := 0, n := fn.ntmps, pin := [] }
  have hS0 : Sim cx ⟨fun _ => 0, fun _ => undef, fun _ => 0, fun _ => 0, fun _ _ _ => undef, fun _ => [], F⟩ S0 tm W := by
    refine ⟨?_, fun s v h => (by cases h), fun id b h => (by cases h), fun i j bi bj k h => (by cases h), fun id b k h => (by cases h), fun id b k h => (by cases h), fun id b k h => (by cases h), hFlt, ⟨rfl, rfl, rfl, Nat.le_refl _, fun _ _ _ => rfl⟩, fun _ h => h, fun _ h => .inl h⟩
    show (args.toArray ++ Array.replicate (fn.ntmps - args.toArray.size) undef).size = fn.ntmps
    simp
    omega
  obtain ⟨G, i1, i2, i3, i4, i5⟩ := entry_sound (s := 0) (id := 0) hS0 hin hnd (fun b hb => ⟨hfF b hb, .inr hb, fun i c h => (by cases h)⟩) (fun _ _ _ => rfl)
  have hI : Inv cx args.toArray (entrySt E fn s.ps x).nx (entrySt E fn s.ps x) ⟨tm, []⟩ W := by
    refine ⟨⟨G, ?_⟩, fun k hk => ?_, rfl, fun t _ => htm t⟩
    · have hH : (entrySt E fn s.ps x).H = (entry E s.ps x 0 0).2.1 ++ S0.H := (List.append_nil _).symm
      have hkk : (entrySt E fn s.ps x).k = St.k { S0 with H := (entry E s.ps x 0 0).2.1 ++ S0.H } := by funext i; unfold St.k; rw [hH]
      have hhh : (entrySt E fn s.ps x).h = St.h { S0 with H := (entry E s.ps x 0 0).2.1 ++ S0.H } := by funext i; unfold St.h; rw [hH]
      refine ⟨i1.sz, fun t v hv => ?_, by rw [hhh, hkk]; exact i1.blks, by rw [hhh]; exact i1.inj, by rw [hhh]; exact i1.sepF, by rw [hhh]; exact i1.sep, by rw [hhh]; exact i1.own, i1.fr, i1.frm, i1.ff⟩
      obtain ⟨_, w, hw, hr⟩ := i5 t v hv
      have : tm.getD t undef = w := by
        rw [htm t, Array.getD_eq_getD_getElem?]
        have hw' : args[t]? = some w := by simpa using hw
        simp [hw']
      show AVR G _ W v (tm.getD t undef)
      rw [this, hkk]
      exact hr
    · show k < (entry E s.ps x 0 0).2.2
      have hk : (lk (entry E s.ps x 0 0).2.1 k).isSome = true := hk
      by_cases h : k < (entry E s.ps x 0 0).2.2
      · exact h
      · rw [entry_key s.ps x 0 0 k (.inr (by omega))] at hk; cases hk
  refine calls_of_wp (c := c) hf hb ?_
  refine runA_sound hT hΓ hmix (orc_sound hT hΓ hmix k d) c _ _ r _ W _ hrun hI ?_
  intro ex S a W' hk hI'
  have key : ∀ {o : Option s.R}, (bif natsEq S.pin (pins s.ps 0) then (finR T fn s S).run S.h [] fun a _ => some a else none) = some r → a.defers = [] ∧ ∃ v, (results fn a.tmps).run P W' = .ok v W' ∧ (fun (e : Ending) (W' : World) => ∃ v, e = .returned v ∧ Left E s r W F args fp v W') (.returned v) W' := by
    intro _ hk
    cases hp : natsEq S.pin (pins s.ps 0) with
    | false => rw [hp] at hk; cases hk
    | true =>
      rw [hp, cond_true] at hk
      obtain ⟨y, l, h1, h2⟩ := RM.run_out hk
      cases h2
      obtain ⟨v, h3, h4⟩ := fin_sound hT hlen hI' (natsEq_eq hp) h1
      exact ⟨hI'.defers, v, h3, v, rfl, h4⟩
  cases ex with
  | norm => exact key (o := none) hk
  | ret => exact key (o := none) hk
  | exit id => cases hk
end Mir
