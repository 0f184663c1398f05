/- The mirror machine: maps by whole numbers. -/
import Derived.Test.YtbepkbaemapkjaaMir12
import Derived.ChangeMaps4
namespace Mir
set_option linter.unusedVariables false
set_option linter.unusedSimpArgs false
open Go
variable {E : Env} {P : Program} {T : Tb} {cx : Cx} {G G' : Gh} {S : St E} {tm : Array Value} {a : Act} {W W' : World}
theorem mpIdx_lt {α : Type} {n : Int} : ∀ {es : List (Int × α)} {j : Nat}, mpIdx n es = some j → j < es.length
  | [], _, h => by cases h
  | e :: r, j, h => by
    unfold mpIdx at h
    split at h
    · cases h; simp
    · obtain ⟨i, hi, rfl⟩ := Option.map_eq_some_iff.1 h
      have := mpIdx_lt hi
      simp; omega
/-- What the model's search finds. -/
theorem findNow_mp {α : Type} {k : IntKind} {n : Int} : ∀ (es : List MapEntry) (ents : List (Int × α)) (i : Nat), es.length = ents.length → (∀ (j : Nat) (h : j < es.length) (h' : j < ents.length), es[j].key = .int k ents[j].1) →
    Instr.findNow (.int k) (.int k n) es i = some ((mpIdx n ents).bind fun j => es[j]?.map fun e => (i + j, e.val))
  | [], [], _, _, _ => rfl
  | e :: es, x :: ents, i, hl, hk => by
    have h0 := hk 0 (by simp) (by simp)
    simp only [List.getElem_cons_zero] at h0
    unfold Instr.findNow mpIdx
    rw [h0]
    simp only [Instr.sameNow, if_true]
    by_cases hn : n = x.1
    · rw [if_pos hn]
      have : (n == x.1) = true := by simp [hn]
      rw [this]
      simp
    · rw [if_neg hn]
      have : (n == x.1) = false := by simp [hn]
      rw [this]
      simp only
      rw [findNow_mp es ents (i + 1) (by simpa using hl) (fun j h h' => by have := hk (j + 1) (by simp; omega) (by simp; omega); simpa using this)]
      cases mpIdx n ents with
      | none => rfl
      | some j =>
        simp only [Option.map_some, Option.bind_some, List.getElem?_cons_succ]
        cases es[j]? with
        | none => rfl
        | some e' => simp only [Option.map_some]; congr 2; congr 1; omega
  | [], _ :: _, _, h, _ => by cases h
  | _ :: _, [], _, h, _ => by cases h
theorem makeMap_sound (hT : T.OK P) {fr : Nat} (hf : lk S.H fr = none) (hS : Sim cx G S a.tmps W) {t : TypeId} {l l' : List Nat} {r : Res E} (h : RM.Out S.h (aMakeMap (E := E) T fr t) l r l') : Ends P cx G S a W (Instr.makeMap t none) r := by
  unfold aMakeMap at h
  split at h
  · split at h
    · rename_i kt et _ _ _ k _ _ _
      obtain rfl := h.1
      obtain ⟨h1, h2⟩ := hS.newRow (W' := W.alloc (.map #[] 0)) hf (.mp k et []) [] W.heap.size undef 0 0 rfl (fun i b h => by cases h) (fun j hj => .inl (heap_alloc_old W _ j hj)) (fun j ho => .inl (by have : j = _ := ho; simp only [Gh.add, updf_same] at this; omega)) (by simp) ⟨rfl, rfl, rfl⟩ (fun K' hK hE => by
        refine ⟨[], 0, ?_, rfl, fun i h => by simp at h⟩
        simp only [Gh.add, updf_same]
        exact heap_alloc_new W _)
      refine ⟨.map (some W.heap.size), W.alloc (.map #[] 0), _, rfl, h1, h2, ?_⟩
      refine ⟨?_, ?_⟩
      · unfold St.k; simp [lk_cons]
      · simp only [Gh.add, updf_same]
    · exact h.elim
  · exact h.elim
theorem lookup_sound (hT : T.OK P) (hS : Sim cx G S a.tmps W) {t : TypeId} {ok : Bool} {m x : Operand} {l l' : List Nat} {r : Res E} (h : RM.Out S.h (aLookup T t ok (evO (lk S.ρ) m) (evO (lk S.ρ) x)) l r l') : Ends P cx G S a W (Instr.lookup t (a.eval m) (a.eval x) ok) r := by
  unfold aLookup at h
  split at h
  rotate_left
  · exact h.elim
  rename_i kt et id k n ht hm hx
  have ht := hT.und _ _ ht
  have hm : AtR (E := E) G S.k W (.mp id) (a.eval m) := ev_sound hS hm
  have hx : a.eval x = .int k n := ev_sound hS hx
  split at h
  rotate_left
  · exact h.elim
  rename_i k0 za hkt hza
  have hkt := hT.und _ _ hkt
  have hb' := RM.Out_bif h; clear h; obtain ⟨hc, h⟩ := hb'
  obtain rfl := ikEq_eq hc
  obtain ⟨z, l1, hz, h⟩ := RM.Out_bind h
  obtain ⟨w, d, ie, hzr, _, _, hzE⟩ := zeroD_sound hT hS hz
  have hzagg : ∃ vs : List Value, w = .agg vs.toArray := by
    obtain ⟨w', hw', hr', _, _, _⟩ := zero_sound hT hza (K := S.k)
    have e := (hzr W).symm.trans (hw' W)
    cases e
    obtain ⟨vs, hv, _⟩ := hr' G W
    exact ⟨vs, hv⟩
  obtain ⟨b, hb, h⟩ := h
  dsimp only at h
  split at h
  rotate_left
  · exact h.elim
  rename_i k1 n1 es
  split at h
  rotate_left
  · exact h.elim
  rename_i hn1
  have hb' := RM.Out_bif h; clear h; obtain ⟨hc, h⟩ := hb'
  obtain rfl := ikEq_eq hc
  obtain rfl := Nat.eq_of_beq_eq_true hn1
  obtain ⟨ms, clock, hheap, hlen, hall⟩ := hS.blks id _ hb
  have hf := findNow_mp (k := k) (n := n) ms es 0 hlen (fun j h1 h2 => (hall j h1 h2).1)
  have hrunK : ∀ W', (Instr.findKey kt (.int k n) ms.toArray.toList).run P W' = .ok ((mpIdx n es).bind fun j => ms[j]?.map fun e => (0 + j, e.val)) W' := fun W' => MapKept.run_findKey hkt hf
  rw [hm.2, hx]
  -- what is found
  have found : ∃ (v : Value) (hit : Bool), (Instr.lookup t (.map (some (G.loc id))) (.int k n) ok).run P W = .ok (if ok then .tuple #[v, .bool hit] else v) W ∧ hit = (mpGet n es).isSome ∧ CvR G S.k W (toCv E (.st n1) ((mpGet n es).getD z)) v := by
    have hck : (Instr.checkKey ms.toArray.isEmpty 10000 kt (.int k n)).run P W = .ok () W := MapKept.run_checkKey (P := P) (w := W) (k := .int k n) hkt (show MapKept.IsKey (.int k) (.int k n) from rfl) ms.toArray.isEmpty 9999
    cases hj : mpIdx n es with
    | none =>
      refine ⟨w, false, ?_, by simp [mpGet, hj], ?_⟩
      · rw [hj] at hrunK
        simp only [Option.bind_none] at hrunK
        simp only [Instr.lookup, Sem.run_bind, run_underlying ht, Result.andThen_ok, MapKept.run_getObj_map hheap, Sem.run_pure, hck, hrunK, hzr]
      · have e : (mpGet n es).getD z = z := by simp [mpGet, hj]
        rw [e]
        obtain ⟨vs, rfl⟩ := hzagg
        exact ⟨vs, rfl, toCv_cells (t := .st n1) (fun _ h => h) (by simpa [Value.cells] using hzE)⟩
    | some j =>
      have hjl := mpIdx_lt hj
      have hjm : j < ms.length := by omega
      obtain ⟨_, vs, d', hv, hr⟩ := hall j hjm hjl
      refine ⟨ms[j].val, true, ?_, by simp [mpGet, hj, List.getElem?_eq_getElem hjl], ?_⟩
      · rw [hj] at hrunK
        simp only [Option.bind_some, List.getElem?_eq_getElem hjm, Option.map_some] at hrunK
        simp only [Instr.lookup, Sem.run_bind, run_underlying ht, Result.andThen_ok, MapKept.run_getObj_map hheap, Sem.run_pure, hck, hrunK]
      · have e : (mpGet n es).getD z = es[j].2 := by simp [mpGet, hj, List.getElem?_eq_getElem hjl]
        rw [e, hv]
        exact ⟨vs, rfl, toCv_cells (t := .st n1) (fun _ h => h) (show RoE E _ (.st n1) es[j].2 vs from hr)⟩
  obtain ⟨v, hit, hrun, hhit, hcv⟩ := found
  cases ok with
  | true =>
    rw [cond_true] at h
    obtain rfl := h.1
    refine Ends.pure hS (w := .tuple #[v, .bool hit]) (by simpa using hrun) ?_
    exact ⟨[v, .bool hit], rfl, v, _, rfl, hcv, _, _, rfl, by rw [hhit]; rfl, rfl⟩
  | false =>
    rw [cond_false] at h
    obtain rfl := h.1
    exact Ends.pure hS (w := v) (by simpa using hrun) hcv
theorem mapUpd_sound (hT : T.OK P) (hS : Sim cx G S a.tmps W) {t : TypeId} {m x v : Operand} {l l' : List Nat} {r : Res E} (h : RM.Out S.h (aMapUpd T t (evO (lk S.ρ) m) (evO (lk S.ρ) x) (asCv (evO (lk S.ρ) v))) l r l') :
    Ends P cx G S a W (Instr.mapUpdate t (a.eval m) (a.eval x) (a.eval v) >>= fun _ => Pure.pure undef) r := by
  unfold aMapUpd at h
  split at h
  rotate_left
  · exact h.elim
  rename_i kt et id k n xs ht hm hx hcv
  have hv : CvR G S.k W (.agg xs) (a.eval v) := ev_sound hS (asCv_some hcv)
  have ht := hT.und _ _ ht
  have hm : AtR (E := E) G S.k W (.mp id) (a.eval m) := ev_sound hS hm
  have hx : a.eval x = .int k n := ev_sound hS hx
  split at h
  rotate_left
  · exact h.elim
  rename_i k0 hkt
  have hkt := hT.und _ _ hkt
  have hb' := RM.Out_bif h; clear h; obtain ⟨hc, h⟩ := hb'
  simp only [Bool.and_eq_true] at hc
  obtain ⟨hc, hok⟩ := hc
  obtain rfl := ikEq_eq hc
  have hb2 := RM.Out_bind h; clear h; obtain ⟨u, l1, hu, h⟩ := hb2
  obtain ⟨⟨F', hS1, hF1, hf1⟩, hin⟩ := frz_sound hS hu
  obtain ⟨b, hb, h⟩ := h
  dsimp only at h
  split at h
  rotate_left
  · exact h.elim
  rename_i k1 n1 es
  have hb' := RM.Out_bif h; clear h; obtain ⟨hc, h⟩ := hb'
  simp only [Bool.and_eq_true] at hc
  obtain ⟨hc, hn1⟩ := hc
  obtain rfl := ikEq_eq hc
  obtain rfl := Nat.eq_of_beq_eq_true hn1
  have hb2 := RM.Out_bind h; clear h; obtain ⟨d, l2, hd, h⟩ := hb2
  obtain rfl := h.1
  obtain ⟨q, hq⟩ := ofCv_sound hS hF1 (t := .st n1) rfl (v := .agg xs) (by simpa [Cv.cells] using hok) hv (fun y hy => Among.inF hf1 (hin y (by simpa [Cv.cells] using hy))) hd
  obtain ⟨vs, hve, _⟩ := hv
  rw [hve] at hq
  have hq : RoL E (RoA E W F' q) (E.fl n1) (E.opn n1 d) vs := by
    have := hq
    simp [Value.cells] at this
    exact this
  have hb1 : St.h { S with H := u ++ S.H } id = some (.mp k n1 es) := by
    rw [h_append]
    cases hl : lk u id with
    | none => exact hb
    | some b' =>
      obtain ⟨e, t', ys, _, h2⟩ := frz_keys hu id b' hl
      rcases h2 with ⟨f, h2⟩ | ⟨hid, h2⟩ <;> rw [hb] at h2 <;> cases h2
  obtain ⟨ms, clock, hheap, hlen, hall⟩ := hS.blks id _ hb
  have hf := findNow_mp (k := k) (n := n) ms es 0 hlen (fun j h1 h2 => (hall j h1 h2).1)
  have hkey : MapKept.IsKey (.int k) (.int k n) := rfl
  have hrunK : ∀ W', (Instr.findKey kt (.int k n) ms.toArray.toList).run P W' = .ok ((mpIdx n es).bind fun j => ms[j]?.map fun e => (0 + j, e.val)) W' := fun W' => MapKept.run_findKey hkt hf
  have hck : (Instr.checkKey false 10000 kt (.int k n)).run P W = .ok () W := MapKept.run_checkKey (P := P) (w := W) hkt hkey false 9999
  have hlt : G.loc id < W.heap.size := (Array.getElem?_eq_some_iff.1 hheap).1
  -- the run
  have done : ∃ (ms' : List MapEntry) (clock' : Nat), (Instr.mapUpdate t (.map (some (G.loc id))) (.int k n) (.agg vs.toArray)).run P W = .ok () { W with heap := W.heap.setIfInBounds (G.loc id) (.map ms'.toArray clock') } ∧ ms'.length = (mpSet n d es).length ∧
      ∀ (W' : World), (∀ b, F' b → W'.heap[b]? = W.heap[b]?) → ∀ (i : Nat) (h : i < ms'.length) (h' : i < (mpSet n d es).length), ms'[i].key = .int k (mpSet n d es)[i].1 ∧ ∃ (vs : List Value) (d' : Nat), ms'[i].val = .agg vs.toArray ∧ RoL E (RoA E W' F' d') (E.fl n1) (E.opn n1 (mpSet n d es)[i].2) vs := by
    have old : ∀ (W' : World), (∀ b, F' b → W'.heap[b]? = W.heap[b]?) → ∀ (i : Nat) (h : i < ms.length) (h' : i < es.length), ms[i].key = .int k es[i].1 ∧ ∃ (vs : List Value) (d' : Nat), ms[i].val = .agg vs.toArray ∧ RoL E (RoA E W' F' d') (E.fl n1) (E.opn n1 es[i].2) vs := by
      intro W' hW i h1 h2
      obtain ⟨hk, ws, d', e1, e2⟩ := hall i h1 h2
      exact ⟨hk, ws, d', e1, e2.mono fun t x v => RoA.more hF1 (fun b hb => hW b (hF1 b hb)) d' d' (Nat.le_refl _) t x v⟩
    have new : ∀ (W' : World), (∀ b, F' b → W'.heap[b]? = W.heap[b]?) → ∃ (ws : List Value) (d' : Nat), Value.agg vs.toArray = .agg ws.toArray ∧ RoL E (RoA E W' F' d') (E.fl n1) (E.opn n1 d) ws := fun W' hW =>
      ⟨vs, q, rfl, hq.mono fun t x v => RoA.more (fun _ h => h) hW q q (Nat.le_refl _) t x v⟩
    cases hj : mpIdx n es with
    | none =>
      rw [hj] at hrunK
      simp only [Option.bind_none] at hrunK
      refine ⟨ms ++ [⟨.int k n, .agg vs.toArray, clock⟩], clock + 1, ?_, by simp [mpSet, hj, hlen], fun W' hW i h1 h2 => ?_⟩
      · simp only [Instr.mapUpdate, Sem.run_bind, run_underlying ht, Result.andThen_ok, MapKept.run_getObj_map hheap, hck, hrunK, MapKept.run_setObj_map _ hheap]
        simp
      · have e : mpSet n d es = es ++ [(n, d)] := by simp [mpSet, hj]
        simp only [e] at h2 ⊢
        by_cases hi : i < ms.length
        · simp only [List.getElem_append_left hi, List.getElem_append_left (show i < es.length by omega)]
          exact old W' hW i hi (by omega)
        · have : i = ms.length := by simp at h1; omega
          subst this
          have e1 : (ms ++ [(⟨.int k n, .agg vs.toArray, clock⟩ : MapEntry)])[ms.length]'h1 = ⟨.int k n, .agg vs.toArray, clock⟩ := by simp
          have e2 : (es ++ [(n, d)])[ms.length]'h2 = (n, d) := by simp [hlen]
          rw [e1, e2]
          exact ⟨rfl, new W' hW⟩
    | some j =>
      have hjl := mpIdx_lt hj
      have hjm : j < ms.length := by omega
      have hjk : ms[j].key = .int k n := by
        rw [(hall j hjm hjl).1]
        have : ∀ (es : List (Int × E.S n1)) (j : Nat) (hl : j < es.length), mpIdx n es = some j → es[j].1 = n := by
          intro es
          induction es with
          | nil => intro j hl h; cases h
          | cons e r ih =>
            intro j hl h
            unfold mpIdx at h
            split at h
            · cases h; rename_i he; exact he.symm
            · obtain ⟨i, hi, rfl⟩ := Option.map_eq_some_iff.1 h
              exact ih i (mpIdx_lt hi) hi
        rw [this es j hjl hj]
      rw [hj] at hrunK
      simp only [Option.bind_some, List.getElem?_eq_getElem hjm, Option.map_some] at hrunK
      refine ⟨ms.set j ⟨.int k n, .agg vs.toArray, ms[j].born⟩, clock, ?_, by simp [mpSet, hj, hlen], fun W' hW i h1 h2 => ?_⟩
      · have hst := MapKept.run_keyThatStays (P := P) (w := W) hkey
        have hmod : (ms.toArray.modify j fun e => { e with key := .int k n, val := .agg vs.toArray }) = (ms.set j ⟨.int k n, .agg vs.toArray, ms[j].born⟩).toArray := by
          apply Array.toList_inj.1
          apply List.ext_getElem?
          intro i
          simp only [Array.toList_modify, List.getElem?_modify, List.getElem?_set]
          by_cases hi : j = i
          · subst hi; simp [List.getElem?_eq_getElem hjm, hjm]
          · simp [hi]
        simp only [Instr.mapUpdate, Sem.run_bind, run_underlying ht, Result.andThen_ok, MapKept.run_getObj_map hheap, hck, hrunK, Nat.zero_add]
        have e1 : ((ms.toArray[j]?.map (·.key)).getD (.int k n)) = .int k n := by simp [List.getElem?_eq_getElem hjm, hjk]
        rw [e1, hst]
        simp only [Result.andThen_ok, MapKept.run_setObj_map _ hheap, hmod]
      · have e : mpSet n d es = es.set j (n, d) := by simp [mpSet, hj]
        simp only [e] at h2 ⊢
        by_cases hi : i = j
        · subst hi
          simp only [List.getElem_set_self]
          exact ⟨trivial, new W' hW⟩
        · simp only [List.getElem_set_ne (fun e => hi e.symm)]
          exact old W' hW i (by simpa using h1) (by simpa using h2)
  obtain ⟨ms', clock', hrun, hl', hall'⟩ := done
  have hw := hS1.write hb1 (k0 := G.loc id) (W' := { W with heap := W.heap.setIfInBounds (G.loc id) (.map ms'.toArray clock') }) rfl rfl (b := .mp k n1 (mpSet n d es)) rfl (fun k hk => hk) (fun b hb => by simp [Ne.symm hb]) (by simp) ⟨rfl, rfl, rfl⟩ (fun K' hK hE =>
    ⟨ms', clock', by simp [hlt], hl', fun i h1 h2 => hall' _ (fun b hb => hE.W b hb) i h1 h2⟩)
  have hE1 : Ext G S.k W { G with F := F' } (St.k { S with H := u ++ S.H }) W := ext_F hF1
  rw [hm.2, hx, hve]
  exact Ends.unit (r := (_, _)) ⟨_, _, hrun, hw.1, hE1.trans hw.2⟩ rfl
end Mir
