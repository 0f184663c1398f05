/- The mirror machine: literals, make, conversions. -/
import Derived.Test.YtbepkbaemapkjaaMir11
import Derived.Laws.Tables
import Derived.Great.BuildSlice
import Derived.Lib.ConvBytes
import Derived.Laws.BytesArg
namespace Mir
set_option linter.unusedVariables false
set_option linter.unusedSimpArgs false
open Go
variable {E : Env} {P : Program} {T : Tb} {cx : Cx} {G G' : Gh} {S : St E} {tm : Array Value} {a : Act} {W W' : World}

theorem foldl_put (off : Nat) : ∀ (vs : List Value) (k : Nat) (cells : Array Value), off + k + vs.length ≤ cells.size →
    ((vs.zipIdx k).foldl (fun (cs : Array Value) (x : Value × Nat) => cs.setIfInBounds (off + x.2) x.1) cells).toList = putAt cells.toList (off + k) vs
  | [], k, cells, _ => by simp [putAt]
  | v :: vs, k, cells, h => by
    rw [List.zipIdx_cons, List.foldl_cons, foldl_put off vs (k + 1) _ (by simp at h ⊢; omega)]
    simp only [Array.toList_setIfInBounds]
    unfold putAt
    have := list_seg_step cells.toList (off + k) v vs (by simp at h ⊢; omega)
    simpa [Nat.add_assoc] using this
theorem fold_put (vs cells : Array Value) (off : Nat) (h : off + vs.size ≤ cells.size) : (vs.zipIdx.foldl (fun cs (x : Value × Nat) => cs.setIfInBounds (off + x.2) x.1) cells).toList = putAt cells.toList off vs.toList := by
  have := foldl_put off vs.toList 0 cells (by simpa using h)
  rw [← Array.foldl_toList, Array.toList_zipIdx]
  simpa using this
theorem fill_step (place : Nat → Option (Nat × Nat)) (cells : Array Value) (i : Nat) (v : Value) (rest : List (Nat × Value)) {off size : Nat} (hp : place i = some (off, size)) (hs : v.cells.size = size) (hl : off + v.cells.size ≤ cells.size) :
    Instr.fill place cells ((i, v) :: rest) = Instr.fill place (putAt cells.toList off v.cells.toList).toArray rest := by
  have h1 : ¬ (v.cells.size ≠ size || off + v.cells.size > cells.size) = true := by simp [hs]; omega
  simp only [Instr.fill, hp, if_neg h1]
  congr 1
  apply Array.ext'
  rw [fold_put _ _ _ hl]
theorem fills_sound (hT : T.OK P) (hS : Sim cx G S a.tmps W) {fs : Array Field} {place : Nat → Option (Nat × Nat)} (hp : ∀ (i : Nat) (fd : Field) (n : Nat), fs[i]? = some fd → T.size fd.type = some n → place i = some (fd.offset, n)) :
    ∀ {ps : List (Nat × Operand)} {cs cs' : List (At E)} {vs : List Value}, AtsR G S.k W cs vs → fills T fs (ps.map fun p => (p.1, evO (lk S.ρ) p.2)) cs = some cs' →
      ∃ vs', Instr.fill place vs.toArray (ps.map fun p => (p.1, a.eval p.2)) = some vs'.toArray ∧ AtsR G S.k W cs' vs'
  | [], cs, cs', vs, hr, h => by cases h; exact ⟨vs, rfl, hr⟩
  | (i, x) :: ps, cs, cs', vs, hr, h => by
    simp only [List.map_cons, fills] at h
    split at h
    · cases h
    · rename_i fd v hne hfd hv
      split at h
      · rename_i n hn
        cases hc : (Nat.beq v.cells.length n && Nat.ble (fd.offset + n) cs.length && v.cells.all okAt) with
        | false => rw [hc] at h; cases h
        | true =>
          rw [hc] at h
          simp only [cond_true] at h
          simp only [Bool.and_eq_true] at hc
          have h1 := Nat.eq_of_beq_eq_true hc.1.1
          have h2 := Nat.le_of_ble_eq_true hc.1.2
          have hx := ev_sound hS (asCv_some hv)
          have hcells := CvR.cells (K := S.k) hx hc.2
          have hl1 : (a.eval x).cells.toList.length = n := by rw [hcells.length]; exact h1
          have hl2 := hr.length
          rw [List.map_cons, fill_step place vs.toArray i (a.eval x) _ (hp i fd n hfd hn) (by simpa using hl1) (by simp at hl1 ⊢; omega)]
          exact fills_sound hT hS hp (hr.putAt hcells fd.offset) h
      · cases h
    · cases h
theorem mapM_sizes (hT : T.OK P) : ∀ (fs : List Field), fs.all (fun f => (T.size f.type).isSome) = true → ∃ places : List (Nat × Nat), fs.mapM (fun f => (P.info? f.type).map fun i => (f.offset, i.size)) = some places ∧ ∀ (i : Nat) (fd : Field) (n : Nat), fs[i]? = some fd → T.size fd.type = some n → places[i]? = some (fd.offset, n)
  | [], _ => ⟨[], rfl, fun i fd n h => by simp at h⟩
  | f :: fs, h => by
    simp only [List.all_cons, Bool.and_eq_true] at h
    obtain ⟨m, hm⟩ := Option.isSome_iff_exists.1 h.1
    have h1 := hT.size _ _ hm
    obtain ⟨i0, hi0, hsz⟩ := Option.map_eq_some_iff.1 h1
    obtain ⟨places, hp, hget⟩ := mapM_sizes hT fs h.2
    refine ⟨(f.offset, i0.size) :: places, by simp [List.mapM_cons, hi0, hp], fun i fd n hf hn => ?_⟩
    cases i with
    | zero =>
      simp at hf
      subst hf
      rw [hm] at hn
      cases hn
      simp [hsz]
    | succ i => simpa using hget i fd n (by simpa using hf) hn
theorem zero_info (hT : T.OK P) {t : TypeId} {z : Value} (h : T.zero t = some z) : ∃ i, P.info? t = some i ∧ i.zero = some z := by
  have hz := hT.zero _ _ h
  cases hi : P.info? t with
  | none => rw [hi] at hz; cases hz
  | some i => rw [hi] at hz; exact ⟨i, rfl, hz⟩

/-! ### Rows of literals -/
theorem ofCv_sound (hS : Sim cx G S tm W) {F : Nat → Prop} (hF : ∀ b, G.F b → F b) {t : Ty} (hel : t.elemB = true) {v : Cv E} {w : Value} (hok : v.cells.all okAt = true) (hv : CvR G S.k W v w) (hi : ∀ x ∈ v.cells, InF G S F x) {l l' : List Nat} {d : Ty.D E.S t} (h : RM.Out S.h (ofCv E t v) l d l') :
    ∃ n, RoE E (RoA E W F n) t d w.cells.toList := by
  have hcells := CvR.cells (K := S.k) hv hok
  cases v with
  | agg xs =>
    cases t with
    | st n =>
      obtain ⟨x, l1, h1, h⟩ := RM.Out_bind h
      obtain rfl := h.1
      obtain ⟨m, hm⟩ := ofAts_sound hS hF hcells hi h1
      exact ⟨m, by show RoL E _ _ (E.opn n (E.shut n x)) _; rw [E.opn_shut]; exact hm⟩
    | _ => exact h.elim
  | arr k n xs => cases t <;> first | exact h.elim | cases hel
  | «at» x =>
    have h' : (∃ n, t = .st n) ∨ RM.Out S.h (ofAt E t x) l d l' := by
      cases t with
      | st n => exact .inl ⟨n, rfl⟩
      | arr k n => cases hel
      | pbx b n => cases hel
      | _ => exact .inr h
    rcases h' with ⟨n, rfl⟩ | h'
    · exact h.elim
    · obtain ⟨w', r', hw, ha, hr'⟩ := hcells
      rw [AtsR] at hr'
      subst hr'
      obtain ⟨m, hm⟩ := ofAt_sound hS hF ha (hi x (by simp [Cv.cells])) h'
      rw [hw]
      cases t with
      | st n => exact h.elim
      | _ => exact ⟨m, w', rfl, hm⟩
/-- The parts of a literal. -/
def PartsR (W : World) (F : Nat → Prop) (ty : Ty) : List (Nat × Ty.D E.S ty) → List (Nat × Value) → Prop
  | [], ws => ws = []
  | (i, d) :: r, ws => ∃ w q, ws = (i, w) :: q ∧ (∃ n, RoE E (RoA E W F n) ty d w.cells.toList) ∧ PartsR W F ty r q
theorem elemsL_sound (hS : Sim cx G S a.tmps W) {ty : Ty} : ∀ {ps : List (Nat × Operand)} {l l' : List Nat} {q : List (Nat × Ty.D E.S ty) × Up E}, RM.Out S.h (elemsL E ty (ps.map fun p => (p.1, evO (lk S.ρ) p.2))) l q l' →
    FrzL S q.2 ∧ ∀ F : Nat → Prop, (∀ b, G.F b → F b) → (∀ x, Among q.2 x → InF G S F x) → PartsR W F ty q.1 (ps.map fun p => (p.1, a.eval p.2))
  | [], _, _, _, h => by rw [h.1]; exact ⟨fun p hp => (by cases hp), fun _ _ _ => rfl⟩
  | (i, x) :: ps, l, l', q, h => by
    simp only [List.map_cons, elemsL] at h
    split at h
    · rename_i v hv
      have hb' := RM.Out_bif h; clear h; obtain ⟨hok, h⟩ := hb'
      simp only [Bool.and_eq_true] at hok
      obtain ⟨hok, hel⟩ := hok
      obtain ⟨u, l1, h1, h⟩ := RM.Out_bind h
      obtain ⟨d, l2, h2, h⟩ := RM.Out_bind h
      obtain ⟨q', l3, h3, h⟩ := RM.Out_bind h
      obtain rfl := h.1
      obtain ⟨hf, hp⟩ := elemsL_sound hS h3
      have hx := ev_sound hS (asCv_some hv)
      refine ⟨fun p hp => ?_, fun F hF hin => ⟨_, _, rfl, ?_, hp F hF (fun x hx => hin x (Among.app (.inr hx)))⟩⟩
      · rcases List.mem_append.1 hp with hp | hp
        · exact (frz_list h1).1 p hp
        · exact hf p hp
      · exact ofCv_sound hS hF hel hok hx (fun y hy => hin y (Among.app (.inl ((frz_list h1).2 y hy)))) h2
    · exact h.elim
theorem RowC.set {F : Nat → Prop} {d n : Nat} {t : Ty} {xs : List (Ty.D E.S t)} {cs vs : List Value} {x : Ty.D E.S t} {i : Nat} (h : RowC E W F d t xs cs) (hi : i < xs.length) (hx : RoE E (RoA E W F n) t x vs) : RowC E W F (max d n) t (xs.set i x) (putAt cs (i * tsz E t) vs) := by
  have hvl := hx.length
  have hle : i * tsz E t + tsz E t ≤ cs.length := by
    rw [h.1]
    have : (i + 1) * tsz E t ≤ xs.length * tsz E t := Nat.mul_le_mul_right _ hi
    rw [Nat.add_mul] at this
    omega
  refine ⟨by rw [putAt_length _ _ _ (by omega), List.length_set]; exact h.1, fun j hj => ?_⟩
  have e : putAt cs (i * tsz E t) vs = putAt cs (i * tsz E t + 0) vs := rfl
  by_cases hji : j = i
  · subst hji
    rw [e, seg_put_same _ _ _ _ _ hle (by omega)]
    simp only [List.getElem_set_self]
    have hp : putAt (seg cs j (tsz E t)) 0 vs = vs := by
      have : (seg cs j (tsz E t)).length = tsz E t := by unfold seg; simp; omega
      unfold putAt
      simp
      omega
    rw [hp]
    exact hx.mono fun t x v => RoA.more (fun _ h => h) (fun _ _ => rfl) n _ (Nat.le_max_right _ _) t x v
  · rw [e, seg_put_other _ _ _ _ _ _ hle (by omega) hji, List.getElem_set_ne (fun e => hji e.symm)]
    exact (h.2 j (by simpa using hj)).mono fun t x v => RoA.more (fun _ h => h) (fun _ _ => rfl) d _ (Nat.le_max_left _ _) t x v
theorem fillL_sound {F : Nat → Prop} {ty : Ty} {sz : Nat} (hsz : sz = tsz E ty) : ∀ {ps : List (Nat × Ty.D E.S ty)} {ws : List (Nat × Value)} {xs xs' : List (Ty.D E.S ty)} {cs : List Value} {d : Nat}, PartsR W F ty ps ws → RowC E W F d ty xs cs → fillL ps xs = some xs' →
    ∃ d' cs', Instr.fill (fun i => some (i * sz, sz)) cs.toArray ws = some cs'.toArray ∧ RowC E W F d' ty xs' cs' ∧ xs'.length = xs.length
  | [], ws, xs, xs', cs, d, hp, hr, h => by cases h; rw [PartsR] at hp; subst hp; exact ⟨d, cs, rfl, hr, rfl⟩
  | (i, x) :: ps, ws, xs, xs', cs, d, ⟨w, q, hw, ⟨n, hn⟩, hp⟩, hr, h => by
    subst hw
    simp only [fillL] at h
    cases hb : Nat.blt i xs.length with
    | false => rw [hb] at h; cases h
    | true =>
      rw [hb] at h
      simp only [cond_true] at h
      have hi : i < xs.length := Nat.le_of_ble_eq_true hb
      have hvl := hn.length
      have hle : i * tsz E ty + tsz E ty ≤ cs.length := by
        rw [hr.1]
        have : (i + 1) * tsz E ty ≤ xs.length * tsz E ty := Nat.mul_le_mul_right _ hi
        rw [Nat.add_mul] at this
        omega
      rw [fill_step (fun i => some (i * sz, sz)) cs.toArray i w q rfl (by rw [hsz]; simpa using hvl) (by simp at hvl ⊢; rw [hsz]; omega)]
      obtain ⟨d', cs', h1, h2, h3⟩ := fillL_sound hsz hp (hr.set hi hn) h
      rw [hsz] at h1 ⊢
      exact ⟨d', cs', h1, h2, by rw [h3]; simp⟩
/-- Zero cells. -/
def zcells (z : Array Value) (n : Nat) : List Value := ((Array.range (n * z.size)).map (z[· % z.size]!)).toList
theorem zcells_row {F : Nat → Prop} {d : Nat} {ty : Ty} {z : Array Value} {x : Ty.D E.S ty} (h : RoE E (RoA E W F d) ty x z.toList) (h0 : 0 < tsz E ty) (n : Nat) : RowC E W F d ty (List.replicate n x) (zcells z n) := by
  have hz : z.size = tsz E ty := by have := h.length; simpa using this
  refine ⟨by simp [zcells, hz], fun i hi => ?_⟩
  have hi' : i < n := by simpa using hi
  have hs : seg (zcells z n) i (tsz E ty) = z.toList := by
    apply List.ext_getElem?
    intro j
    rw [seg_get]
    by_cases hj : j < tsz E ty
    · rw [if_pos hj]
      have hlt : i * tsz E ty + j < n * tsz E ty := by
        have : (i + 1) * tsz E ty ≤ n * tsz E ty := Nat.mul_le_mul_right _ hi'
        rw [Nat.add_mul] at this
        omega
      have hmod : (i * tsz E ty + j) % tsz E ty = j := by rw [Nat.mul_comm, Nat.mul_add_mod, Nat.mod_eq_of_lt hj]
      unfold zcells
      rw [hz]
      have hzj : j < z.size := by rw [hz]; exact hj
      simp [hlt, hmod, hzj]
    · rw [if_neg hj, List.getElem?_eq_none (by simp; omega)]
  rw [hs, List.getElem_replicate]
  exact h
theorem atsOfVals_inF {F : Nat → Prop} : ∀ {vs : List Value} {xs : List (At E)}, atsOfVals vs = some xs → ∀ x ∈ xs, InF G S F x
  | [], _, h, x, hx => by cases h; cases hx
  | v :: vs, xs, h, x, hx => by
    unfold atsOfVals at h
    split at h
    · rename_i y ys h1 h2
      cases h
      rcases List.mem_cons.1 hx with rfl | hx
      · unfold atOfVal at h1
        split at h1 <;> cases h1 <;> trivial
      · exact atsOfVals_inF h2 x hx
    · cases h
theorem zeroCv_inF {F : Nat → Prop} {t : TypeId} {v : Cv E} (h : T.zeroCv E t = some v) : ∀ x ∈ v.cells, InF G S F x := by
  unfold Tb.zeroCv at h
  split at h
  · split at h
    · rename_i k cs _ hz
      cases hc : (cs.toList.all (isZ k) && Nat.beq cs.toList.length _) with
      | false => rw [hc] at h; cases h
      | true =>
        rw [hc] at h
        cases h
        intro x hx
        simp only [Cv.cells, List.mem_map] at hx
        obtain ⟨_, _, rfl⟩ := hx
        trivial
    · cases h
  · split at h
    · rename_i z hz
      unfold cvOfVal at h
      split at h
      · obtain ⟨xs, h1, rfl⟩ := Option.map_eq_some_iff.1 h
        exact atsOfVals_inF h1
      · obtain ⟨x, h1, rfl⟩ := Option.map_eq_some_iff.1 h
        intro y hy
        simp only [Cv.cells, List.mem_singleton] at hy
        subst hy
        unfold atOfVal at h1
        split at h1 <;> cases h1 <;> trivial
    · cases h
theorem zeroD_sound (hT : T.OK P) (hS : Sim cx G S tm W) {e : TypeId} {ty : Ty} {l l' : List Nat} {z : Ty.D E.S ty} (h : RM.Out S.h (zeroD T E e ty) l z l') : ∃ w n i, (∀ W : World, (zeroValue e).run P W = .ok w W) ∧ P.info? e = some i ∧ i.zero = some w ∧ RoE E (RoA E W G.F n) ty z w.cells.toList := by
  unfold zeroD at h
  split at h
  · rename_i v hv
    have hb' := RM.Out_bif h; clear h; obtain ⟨hok, h⟩ := hb'
    simp only [Bool.and_eq_true] at hok
    obtain ⟨hok, hel⟩ := hok
    obtain ⟨w, hw, hr, i, hi, hiz⟩ := zero_sound hT hv (K := S.k)
    obtain ⟨n, hn⟩ := ofCv_sound hS (fun _ h => h) hel hok (hr G W) (zeroCv_inF hv) h
    exact ⟨w, n, i, hw, hi, hiz, hn⟩
  · exact h.elim
theorem newRow_run (e : TypeId) (cs : Array Value) (W : World) : (Go.newRow e cs).run P W = .ok ⟨W.heap.size, 0, none⟩ (W.alloc (.cells cs e)) := rfl
theorem buildSlice_sound (hT : T.OK P) {fr : Nat} (hf : lk S.H fr = none) (hS : Sim cx G S a.tmps W) {t : TypeId} {len : Nat} {parts : Array (Nat × Operand)} {l l' : List Nat} {r : Res E} (h : RM.Out S.h (aBuildSlice T fr t len (parts.toList.map fun p => (p.1, evO (lk S.ρ) p.2))) l r l') :
    Ends P cx G S a W (Instr.buildSlice t len (parts.map fun (i, x) => (i, a.eval x))) r := by
  unfold aBuildSlice at h
  split at h
  rotate_left
  · exact h.elim
  rename_i e ty helem
  have hu := Tb.elem_some hT helem
  split at h
  rotate_left
  · exact h.elim
  rename_i sz hsz
  have hb' := RM.Out_bif h; clear h; obtain ⟨hc, h⟩ := hb'
  simp only [Bool.and_eq_true] at hc
  obtain ⟨⟨⟨hc1, hc2⟩, hc3⟩, hc4⟩ := hc
  obtain rfl := Nat.eq_of_beq_eq_true hc1
  have hpos : 0 < tsz E ty := Nat.le_of_ble_eq_true hc2
  have hsmall := Nat.le_of_ble_eq_true hc3
  obtain ⟨z, l1, hz, h⟩ := RM.Out_bind h
  obtain ⟨q, l2, hq, h⟩ := RM.Out_bind h
  obtain ⟨w, n, ie, hzr, hie, hiz, hzE⟩ := zeroD_sound hT hS hz
  split at h
  rotate_left
  · exact h.elim
  rename_i xs hfill
  obtain rfl := h.1
  obtain ⟨hfl, hparts⟩ := elemsL_sound hS hq
  obtain ⟨F', hS1, hF1, hf1⟩ := frz_all hS hfl
  have hp := hparts F' hF1 (fun x hx => Among.inF hf1 hx)
  have hrow := zcells_row (hzE.mono fun t x v => RoA.more hF1 (fun _ _ => rfl) n n (Nat.le_refl _) t x v) hpos len
  obtain ⟨d, cs, hfr, hr, hxl⟩ := fillL_sound rfl hp hrow hfill
  have hzs : w.cells.size = tsz E ty := by have := hzE.length; simpa using this
  have hrun : (Instr.buildSlice t len (parts.map fun (i, x) => (i, a.eval x))).run P W = .ok (.slice (some ⟨W.heap.size, 0, none⟩) len len) (W.alloc (.cells cs.toArray e)) := by
    have hsm : ¬ len * tsz E ty > 2 ^ 24 := by omega
    have hisz : ie.size = tsz E ty := by
      have := hT.size _ _ hsz
      rw [hie] at this
      simpa using this
    have hparts' : (parts.map fun (i, x) => (i, a.eval x)).toList = parts.toList.map fun p => (p.1, a.eval p.2) := by simp
    by_cases h0 : len * tsz E ty = 0
    · have h00 : len = 0 := by
        rcases Nat.mul_eq_zero.1 h0 with h | h
        · exact h
        · omega
      subst h00
      have hz0 : (zcells w.cells 0).toArray = #[] := by simp [zcells]
      rw [hz0] at hfr
      simp [Instr.buildSlice, run_underlying hu, Go.sizeOf, typeInfo, hie, hisz]
      rw [show Array.map (fun _ => (default : Value)) (Array.range 0) = #[] by (apply Array.ext'; simp), hfr]
      rfl
    · refine run_buildSlice W t e len _ cs.toArray ie w hu hie hiz (by rw [hisz]; exact hsm) (by rw [hisz]; exact h0) ?_
      rw [hparts', hisz, ← hfr]
      congr 1
      simp only [zcells, Array.toArray_toList]
      rw [hzs]
  have hlen : xs.length = len := by rw [hxl]; simp
  have hf' : lk (q.2 ++ S.H) fr = none := by
    rw [lk_append]
    cases hl : lk q.2 fr with
    | none => exact hf
    | some b =>
      obtain ⟨_, _, _, _, h2⟩ := hfl.keys fr b hl
      have : S.k fr := by
        rcases h2 with ⟨_, h2⟩ | ⟨_, h2⟩ <;> exact St.h_k h2
      unfold St.k at this
      rw [hf] at this; cases this
  obtain ⟨G', h1, h2, h3⟩ := fresh_row (W' := W.alloc (.cells (cs ++ []).toArray e)) (S := { S with H := q.2 ++ S.H }) hS1 hf' [] (fun i b h => by cases h) hpos hr (Nat.le_of_eq hlen) (by simp only [maxLen]; have := Nat.le_mul_of_pos_right len hpos; omega) (by rw [List.append_nil, hr.1, hlen]; exact Nat.le_refl _) (.inl rfl)
  rw [List.append_nil] at h1 h2 h3
  rw [hlen] at h3
  have hE1 : Ext G S.k W { G with F := F' } (St.k { S with H := q.2 ++ S.H }) W := ext_F hF1
  exact ⟨_, _, _, hrun, h1, hE1.trans h2, h3⟩
theorem zcells_len (z : Array Value) (n : Nat) : (zcells z n).length = n * z.size := by simp [zcells]
theorem makeSlice_sound (hT : T.OK P) {fr : Nat} (hf : lk S.H fr = none) (hS : Sim cx G S a.tmps W) {t : TypeId} {lo co : Operand} {l l' : List Nat} {r : Res E} (h : RM.Out S.h (aMakeSlice T fr t (opdEq lo co) (evO (lk S.ρ) lo) (evO (lk S.ρ) co)) l r l') :
    Ends P cx G S a W (Instr.makeSlice t (a.eval lo) (a.eval co)) r := by
  unfold aMakeSlice at h
  split at h
  rotate_left
  · exact h.elim
  rename_i e ty helem
  have hu := Tb.elem_some hT helem
  split at h
  rotate_left
  · exact h.elim
  rename_i b sz hby hsz
  have hb' := RM.Out_bif h; clear h; obtain ⟨hc, h⟩ := hb'
  simp only [Bool.and_eq_true] at hc
  obtain ⟨⟨⟨hc1, hc2⟩, hc3⟩, hc4⟩ := hc
  obtain rfl := Nat.eq_of_beq_eq_true hc1
  have hpos : 0 < tsz E ty := Nat.le_of_ble_eq_true hc2
  have hbpos : 0 < b := Nat.le_of_ble_eq_true hc3
  obtain ⟨z, l1, hz, h⟩ := RM.Out_bind h
  obtain ⟨w, n, ie, hzr, hie, hiz, hzE⟩ := zeroD_sound hT hS hz
  have hiby : ie.bytes = b := by have := hT.bytes _ _ hby; rw [hie] at this; simpa using this
  have hisz : ie.size = tsz E ty := by have := hT.size _ _ hsz; rw [hie] at this; simpa using this
  have hzs : w.cells.size = tsz E ty := by have := hzE.length; simpa using this
  split at h
  rotate_left
  · exact h.elim
  rename_i lv cv hl hcv
  have hlv : a.eval lo = .int .i64 lv := ev_sound hS hl
  have hcv : a.eval co = .int .i64 cv := ev_sound hS hcv
  -- the block that is made
  have made : ∀ (ln : Nat) (xs : List (Ty.D E.S ty)), 0 ≤ lv → lv ≤ cv → lv.toNat = ln → xs = List.replicate ln z → room cv.toNat b = true → Ends P cx G S a W (Instr.makeSlice t (a.eval lo) (a.eval co)) (.a (.own fr), [(fr, .row e ty xs false)]) := by
    intro ln xs h0 hle hln hxs hroom
    have hroom : cv.toNat * b ≤ 140737488355328 := by simpa [room] using hroom
    have hcb : cv.toNat ≤ cv.toNat * b := Nat.le_mul_of_pos_right _ hbpos
    have hcl : (cv.toNat : Int) = cv := by omega
    have hrun := run_make (P := P) W t e ie w hu hie hiz .i64 .i64 lv cv h0 hle (by
      rw [hiby, ← hcl, ← Int.natCast_mul, Nat.mul_comm]; omega) (by omega)
    subst hxs
    have hrow := zcells_row hzE hpos ln
    have hlc : ln * tsz E ty ≤ cv.toNat * tsz E ty := Nat.mul_le_mul_right _ (by omega)
    have hcut : zcells w.cells ln ++ (madeCells w.cells (cv.toNat * ie.size)).toList.drop (ln * tsz E ty) = (madeCells w.cells (cv.toNat * ie.size)).toList := by
      have h1 : (madeCells w.cells (cv.toNat * ie.size)).toList.take (ln * tsz E ty) = zcells w.cells ln := by
        unfold madeCells zcells
        rw [hisz, hzs]
        simp only [Array.toList_map, Array.toList_range, ← List.map_take, List.take_range, Nat.min_eq_left hlc]
      rw [← h1, List.take_append_drop]
    obtain ⟨G', h1, h2, h3⟩ := fresh_row (W' := W.alloc (.cells (zcells w.cells ln ++ (madeCells w.cells (cv.toNat * ie.size)).toList.drop (ln * tsz E ty)).toArray e)) (cap := cv.toNat) hS hf [] (fun i b h => by cases h) hpos hrow (by simp; omega) (by simp only [maxLen]; omega) (by rw [hcut]; simp [madeCells, hisz]) (.inl rfl)
    rw [hcut, Array.toArray_toList] at h1 h2 h3
    rw [List.length_replicate] at h3
    subst hln
    refine ⟨_, _, _, ?_, h1, h2, h3⟩
    rw [hlv, hcv]
    exact hrun
  cases hsame : opdEq lo co with
  | true =>
    rw [hsame] at h
    have heq : lv = cv := by
      unfold opdEq at hsame
      split at hsame
      · obtain rfl := Nat.eq_of_beq_eq_true hsame
        rw [hlv] at hcv; cases hcv; rfl
      · simp only [decide_eq_true_eq] at hsame
        subst hsame
        have e1 := hlv
        have e2 := hcv
        simp only [Act.eval, Value.int.injEq] at e1 e2
        rw [← e1.2, ← e2.2]
      · cases hsame
    subst heq
    obtain ⟨h0, hroom, h⟩ := h
    obtain rfl := h.1
    simp only [decide_eq_true_eq] at h0
    exact made lv.toNat _ h0 (Int.le_refl _) rfl rfl hroom
  | false =>
    rw [hsame] at h
    obtain ⟨h0, h1, hroom, h⟩ := h
    obtain rfl := h.1
    simp only [decide_eq_true_eq] at h0 h1
    subst h0
    exact made 0 _ (Int.le_refl _) h1 rfl rfl hroom
/-- New memory that is only read. -/
theorem Sim.roNew (hS : Sim cx G S tm W) (hold : ∀ k, k < W.heap.size → W'.heap[k]? = W.heap[k]?) (hsz : W.heap.size ≤ W'.heap.size) (hos : W'.os = W.os ∧ W'.tape = W.tape ∧ W'.output = W.output) (Q : Nat → Prop) (hQ : ∀ k, Q k → W.heap.size ≤ k ∧ k < W'.heap.size) :
    Sim cx { G with F := fun k => G.F k ∨ Q k } { S with H := [] ++ S.H } tm W' ∧ Ext G S.k W { G with F := fun k => G.F k ∨ Q k } (St.k { S with H := [] ++ S.H }) W' := by
  have hE : Ext G S.k W { G with F := fun k => G.F k ∨ Q k } (St.k { S with H := [] ++ S.H }) W' :=
    ⟨fun _ _ => rfl, fun _ _ => rfl, fun _ _ => rfl, fun _ _ => rfl, fun _ _ => rfl, fun _ _ => rfl, fun i hi => hi, fun _ h => .inl h, fun b hb => hold b (hS.fr b hb)⟩
  refine ⟨hS.upd [] hE ⟨hos.1.trans hS.frm.os, hos.2.1.trans hS.frm.tape, hos.2.2.trans hS.frm.output, Nat.le_trans hS.frm.size hsz, fun k hk hm => ?_⟩ hsz (fun _ _ h => by cases h) ?_ (fun _ _ _ h => by cases h) (fun _ _ _ _ _ h => by cases h) ?_ (fun _ _ _ h => by cases h), hE⟩
  · rw [hold k (Nat.lt_of_lt_of_le hk hS.frm.size)]; exact hS.frm.block k hk hm
  · intro i b k _ hb ho; exact hold k (ho.lt (hS.blks i b hb))
  · intro k hk
    rcases hk with hk | hk
    · exact .inl hk
    · exact .inr (.inl (hQ k hk))
theorem srcAt_ofAt {e : Nat} {t : Ty} {x : At E} {l l' : List Nat} {ys : List (Ty.D E.S t)} (h : RM.Out S.h (srcAt E e t x) l ys l') : ∃ l', RM.Out S.h (ofAt E (.slice e t) x) l ys l' := by
  cases x with
  | ro e' t' xs => exact ⟨_, h⟩
  | own id =>
    obtain ⟨b, hb, h⟩ := h
    cases b with
    | row e' t' xs f => exact ⟨_, _, hb, h⟩
    | _ => exact h.elim
  | sub id off len =>
    obtain ⟨b, hb, h⟩ := h
    cases b with
    | row e' t' xs f => exact ⟨_, _, hb, h⟩
    | _ => exact h.elim
  | nils => exact ⟨_, h⟩
  | _ => exact h.elim
theorem conv_sound (hT : T.OK P) {fr : Nat} (hf : lk S.H fr = none) (hS : Sim cx G S a.tmps W) {s t : TypeId} {x : Operand} {l l' : List Nat} {r : Res E} (h : RM.Out S.h (aConv T fr s t (evO (lk S.ρ) x)) l r l') : Ends P cx G S a W (convert s t (a.eval x)) r := by
  unfold aConv at h
  split at h
  · rename_i k' k k'' n hs ht hx
    have hs := hT.und _ _ hs
    have ht := hT.und _ _ ht
    have hx : a.eval x = .int _ n := ev_sound hS hx
    rw [one_sound h, hx]
    exact Ends.pure hS (w := .int k (k.wrap n)) (by simp [convert, run_underlying hs, run_underlying ht, Conv.intToInt]) rfl
  · rename_i s' hs ht hx
    have hs := hT.und _ _ hs
    have ht := hT.und _ _ ht
    have hx : a.eval x = .string s' := ev_sound hS hx
    rw [one_sound h, hx]
    exact Ends.pure hS (w := .string s') (by simp [convert, run_underlying hs, run_underlying ht]) rfl
  · rename_i e s' hs ht hx
    have hs := hT.und _ _ hs
    have ht := hT.und _ _ ht
    have hx : a.eval x = .string s' := ev_sound hS hx
    split at h
    · rename_i he
      have he := hT.und _ _ he
      obtain ⟨hroom, h⟩ := h
      obtain rfl := h.1
      rw [hx]
      have hroom : s'.size * 1 ≤ 140737488355328 := by simpa [room] using hroom
      have hrun := Lib.run_convert_string_bytes (P := P) W s t e s' hs ht he
      have hl : (bytesOf s').length = s'.size := by simp [bytesOf]
      have hge : s'.size ≤ grownCap W s'.size 0 e := grownCap_ge _ _ _ _
      have hcells : ((bytesOf s').map (Value.int .u8) ++ List.replicate (grownCap W s'.size 0 e - s'.size) (Value.int .u8 0)).toArray = Lib.bytesCells W e s' := by
        apply Array.toList_inj.1
        simp [Lib.bytesCells, bytesOf, List.map_map, Function.comp_def]
      obtain ⟨G', h1, h2, h3⟩ := fresh_rowG (W' := Lib.bytesWorld W e s') (e := e) (t := .int .u8) (xs := bytesOf s') (cs := (bytesOf s').map (Value.int .u8)) (tail := List.replicate (grownCap W s'.size 0 e - s'.size) (Value.int .u8 0)) (d := 0) (cap := grownCap W s'.size 0 e) hS hf [] (fun i b h => by cases h) (by simp [tsz])
        ⟨by simp [tsz], fun i hi => ⟨.int .u8 (bytesOf s')[i], by simp [seg, tsz, List.drop_eq_getElem_cons (show i < ((bytesOf s').map (Value.int .u8)).length by simpa using hi)], rfl⟩⟩ (by rw [hl]; exact hge) (grownCap_le_maxLen _ _ _ _ (by simp only [maxLen]; omega)) (by simp [tsz, hl]; omega)
        (fun k hk => Lib.bytesWorld_at_old W e s' k hk) (by rw [hcells]; exact ⟨_, Lib.bytesWorld_at_new W e s', .inr (Nat.le_refl _)⟩) (by rw [Lib.bytesWorld_size]; omega) ⟨rfl, rfl, rfl⟩
      rw [hl] at h3
      exact ⟨_, _, _, hrun, h1, h2, h3⟩
    · exact h.elim
  · rename_i e y hs ht hx
    have hs := hT.und _ _ hs
    have ht := hT.und _ _ ht
    split at h
    · rename_i he
      have he := hT.und _ _ he
      obtain ⟨xs, l1, hxs, h⟩ := RM.Out_bind h
      rw [one_sound h]
      have hxv : AtR G S.k W y (a.eval x) := ev_sound hS hx
      obtain ⟨d, cs, hr, hsrc⟩ := ofAt_src (P := P) hS hxv (by simp [tsz]) hxs
      have hcs : cs = xs.map (Value.int .u8) := by
        apply List.ext_getElem
        · rw [hr.1]; simp [tsz]
        · intro i h1 h2
          have hi : i < xs.length := by simpa using h2
          obtain ⟨v, hv, hvv⟩ := hr.2 i hi
          have hvv : v = .int .u8 xs[i] := by cases d <;> exact hvv
          have := congrArg (·[0]?) hv
          simp only [seg_get, tsz, Nat.mul_one, Nat.add_zero] at this
          rw [if_pos (by omega), List.getElem?_eq_getElem h1] at this
          simp at this
          rw [this, hvv]
          simp
      have hsl : ∃ A c, a.eval x = .slice A xs.length c := by
        have hl := hsrc.len W
        have hxs' : ∃ l', RM.Out S.h (ofAt E (.slice e (.int .u8)) y) l xs l' := srcAt_ofAt hxs
        obtain ⟨l9, hxs'⟩ := hxs'
        obtain ⟨n, hn⟩ := ofAt_sound (F := fun k => True) hS (fun _ _ => trivial) hxv (by cases y <;> first | trivial | exact fun _ _ _ _ => trivial) hxs'
        cases n with
        | zero => exact hn.elim
        | succ n => obtain ⟨A, c, hv, _⟩ := hn; exact ⟨A, c, hv⟩
      obtain ⟨A, c, hv⟩ := hsl
      rw [hv] at hsrc ⊢
      refine Ends.pure hS (w := .string (strOf xs)) ?_ rfl
      rw [run_convert_bytes_string W s t e A _ c hs he ht]
      have hfirst := hsrc.first W rfl
      cases A with
      | none =>
        have h0 : xs = [] := by
          simp [Builtin.firstCells] at hfirst
          rw [hcs] at hfirst
          simpa using hfirst.symm
        subst h0
        simp [Conv.bytesToString, strOf]
        rfl
      | some ad =>
        simp only [Builtin.firstCells, tsz, Nat.mul_one] at hfirst
        rw [hcs] at hfirst
        rw [run_bytesToString W _ xs.length c xs hfirst, foldl_push_bytes]
        simp [strOf, ByteArray.empty, ByteArray.emptyWithCapacity]
        rfl
    · exact h.elim
  · exact h.elim

/-! ### Parts of rows that are written: copy, clear -/
theorem Sim.congr {S' : St E} (hS : Sim cx G S tm W) (h1 : ∀ s, lk S'.ρ s = lk S.ρ s) (h2 : ∀ k, lk S'.H k = lk S.H k) (h3 : S'.n = S.n) : Sim cx G S' tm W := by
  have hk : S'.k = S.k := by funext i; unfold St.k; rw [h2]
  have hh : ∀ id, S'.h id = S.h id := fun id => by unfold St.h; rw [h2]
  exact ⟨hS.sz.trans h3.symm, fun s v h => by rw [hk]; exact hS.tmps s v (by rw [← h1]; exact h), fun id b h => by rw [hk]; exact hS.blks id b (by rw [← hh]; exact h), fun i j bi bj k hi hj => hS.inj i j bi bj k (by rw [← hh]; exact hi) (by rw [← hh]; exact hj),
    fun id b k h => hS.sepF id b k (by rw [← hh]; exact h), fun id b k h => hS.sep id b k (by rw [← hh]; exact h), fun id b k h => hS.own id b k (by rw [← hh]; exact h), hS.fr, hS.frm, hS.ff⟩
theorem h_lk {id : Nat} {b : Blk E} (h : S.h id = some b) : lk S.H id = some b := by
  unfold St.h at h
  split at h
  · cases h
  · exact h
theorem Sim.again (hS : Sim cx G S tm W) {id : Nat} {b : Blk E} (hb : S.h id = some b) : Sim cx G { S with H := [(id, b)] ++ S.H } tm W ∧ Ext G S.k W G (St.k { S with H := [(id, b)] ++ S.H }) W := by
  have h2 : ∀ k, lk ([(id, b)] ++ S.H) k = lk S.H k := fun k => by
    rw [lk_append, lk_cons]
    split
    · rename_i e; split at e
      · cases e; subst_vars; exact (h_lk hb).symm
      · cases e
    · rfl
  exact ⟨hS.congr (fun _ => rfl) h2 rfl, ⟨fun _ _ => rfl, fun _ _ => rfl, fun _ _ => rfl, fun _ _ => rfl, fun _ _ => rfl, fun _ _ => rfl, fun i hi => k_append hi, fun _ h => h, fun _ _ => rfl⟩⟩
theorem RowC.drop {F : Nat → Prop} {d : Nat} {t : Ty} {xs : List (Ty.D E.S t)} {cs : List Value} (h : RowC E W F d t xs cs) (n : Nat) (hn : n ≤ xs.length) : RowC E W F d t (xs.drop n) (cs.drop (n * tsz E t)) := by
  refine ⟨by rw [List.length_drop, List.length_drop, h.1, Nat.sub_mul], fun i hi => ?_⟩
  have hi' : n + i < xs.length := by simp at hi; omega
  have he : seg (cs.drop (n * tsz E t)) i (tsz E t) = seg cs (n + i) (tsz E t) := by
    apply List.ext_getElem?
    intro j
    rw [seg_get, seg_get]
    by_cases hj : j < tsz E t
    · rw [if_pos hj, if_pos hj, List.getElem?_drop, Nat.add_mul]
      congr 1
      omega
    · rw [if_neg hj, if_neg hj]
  rw [he, List.getElem_drop]
  exact h.2 (n + i) hi'
theorem putAt_split {α : Type} (l ds : List α) (o n : Nat) (h1 : o + ds.length ≤ n) (h2 : n ≤ l.length) : putAt l o ds = ((l.take n).take o ++ (ds ++ (l.take n).drop (o + ds.length))) ++ l.drop n := by
  unfold putAt
  rw [List.take_take, Nat.min_eq_left (by omega), List.append_assoc, List.append_assoc, List.append_assoc]
  congr 2
  conv => lhs; rw [← List.take_append_drop n l]
  rw [List.drop_append_of_le_length (by simp; omega)]
/-- Elements are written into an own row. -/
theorem put_row (hS : Sim cx G S tm W) {id : Nat} {e : Nat} {ty : Ty} {xs : List (Ty.D E.S ty)} (hb : S.h id = some (.row e ty xs false)) {off d0 : Nat} {ys : List (Ty.D E.S ty)} {ds : List Value} (hys : RowC E W G.F d0 ty ys ds) (hle : off + ys.length ≤ xs.length) :
    ∃ W', (∀ A : Option Addr, (0 < ys.length → A = some ⟨G.loc id, off * tsz E ty, none⟩) → ((match A with | some a => storeCells a ds | none => pure () : Sem Unit)).run P W = .ok () W') ∧
      Sim cx G { S with H := [(id, .row e ty (xs.take off ++ (ys ++ xs.drop (off + ys.length))) false)] ++ S.H } tm W' ∧ Ext G S.k W G (St.k { S with H := [(id, Blk.row e ty (xs.take off ++ (ys ++ xs.drop (off + ys.length))) false)] ++ S.H }) W' := by
  rcases Nat.eq_zero_or_pos ys.length with h0 | h0
  · have hy : ys = [] := List.eq_nil_of_length_eq_zero h0
    subst hy
    have hd : ds = [] := List.eq_nil_of_length_eq_zero (by rw [hys.1]; simp)
    subst hd
    have hx : xs.take off ++ (([] : List (Ty.D E.S ty)) ++ xs.drop (off + 0)) = xs := by simp
    refine ⟨W, fun A _ => by cases A <;> simp [storeCells], ?_⟩
    show Sim cx G { S with H := [(id, .row e ty (xs.take off ++ ([] ++ xs.drop (off + 0))) false)] ++ S.H } tm W ∧ Ext G S.k W G (St.k { S with H := [(id, Blk.row e ty (xs.take off ++ ([] ++ xs.drop (off + 0))) false)] ++ S.H }) W
    rw [hx]
    exact hS.again hb
  · obtain ⟨b1, b2, b3, hrow⟩ := hS.blks id _ hb
    rcases hrow with ⟨A, _, hnil⟩ | ⟨cap, cur, d, hhd, hcap, hh, hlen, hmax, hcur, hel⟩
    · rw [hnil] at hle; simp only [List.length_nil] at hle; omega
    · have hheap : CellsAt W (G.loc id) cur.toList.toArray e := by simpa using hh
      have hxl : xs.length * tsz E ty ≤ cur.toList.length := by
        have : xs.length * tsz E ty ≤ cap * tsz E ty := Nat.mul_le_mul_right _ hlen
        simp; omega
      have hend : off * tsz E ty + ds.length ≤ xs.length * tsz E ty := by
        rw [hys.1, ← Nat.add_mul]; exact Nat.mul_le_mul_right _ hle
      have hrun := run_putC (P := P) (o := off * tsz E ty) (vs := ds) hheap (by omega) hys.ones
      refine ⟨_, fun A hA => by rw [hA h0]; exact hrun, ?_⟩
      have hr := row_cells (G := G) (W := W) (id := id) (e := e) hcur hlen hel
      refine hS.write hb (k0 := G.loc id) ⟨rfl, by show 0 < capOf (G.hd id); rw [hhd]; exact hcap⟩ rfl (b := .row e ty (xs.take off ++ (ys ++ xs.drop (off + ys.length))) false) rfl (fun k hk => hk.1) (fun k hk => setRow_other W _ k _ hk) (by simp) setRow_same (fun K' hK hE => ?_)
      have hl' : (xs.take off ++ (ys ++ xs.drop (off + ys.length))).length = xs.length := by simp; omega
      have hr1 : RowC E W G.F (max d d0) ty (xs.take off ++ (ys ++ xs.drop (off + ys.length))) (((cur.toList.take (xs.length * tsz E ty)).take (off * tsz E ty)) ++ (ds ++ (cur.toList.take (xs.length * tsz E ty)).drop ((off + ys.length) * tsz E ty))) :=
        ((hr.take off (by omega)).more (fun _ h => h) (fun _ _ => rfl) (Nat.le_max_left _ _)).append ((hys.more (fun _ h => h) (fun _ _ => rfl) (Nat.le_max_right _ _)).append ((hr.drop (off + ys.length) hle).more (fun _ h => h) (fun _ _ => rfl) (Nat.le_max_left _ _)))
      have hput := putAt_split cur.toList ds (off * tsz E ty) (xs.length * tsz E ty) hend hxl
      refine ⟨by rw [hl']; exact b1, b2, b3, .inr ⟨cap, (putAt cur.toList (off * tsz E ty) ds).toArray, max d d0, by rw [hl']; exact hhd, hcap, hheap.put (by omega), by rw [hl']; exact hlen, hmax, ?_, fun i hi => ?_⟩⟩
      · simp [putAt_length _ _ _ (show off * tsz E ty + ds.length ≤ cur.toList.length by omega)]; exact hcur
      · simp only [row_seg]
        have := (hr1.more (F' := G.F) (fun _ h => h) hE.W (Nat.le_refl _)).2 i hi
        have e2 : seg (putAt cur.toList (off * tsz E ty) ds) i (tsz E ty) = seg (((cur.toList.take (xs.length * tsz E ty)).take (off * tsz E ty)) ++ (ds ++ (cur.toList.take (xs.length * tsz E ty)).drop ((off + ys.length) * tsz E ty))) i (tsz E ty) := by
          rw [hput, seg_append_left]
          · rw [hys.1, ← Nat.add_mul]
          · have e1 := hr1.1
            rw [Nat.add_mul, ← hys.1] at e1
            rw [e1]
            have : (i + 1) * tsz E ty ≤ (xs.take off ++ (ys ++ xs.drop (off + ys.length))).length * tsz E ty := Nat.mul_le_mul_right _ hi
            rw [Nat.add_mul] at this
            omega
        rw [e2]
        exact this
theorem dstRow_sound (hT : T.OK P) (hS : Sim cx G S a.tmps W) {t : TypeId} {x : Operand} {k : (id : Nat) → (e : Nat) → (ty : Ty) → List (Ty.D E.S ty) → (off len : Nat) → RM E (Res E)} {l l' : List Nat} {r : Res E} (h : RM.Out S.h (dstRow T t (evO (lk S.ρ) x) k) l r l') :
    ∃ id e ty xs off len l1, S.h id = some (.row e ty xs false) ∧ P.underlying t = some (.slice e) ∧ sizeIs T e (tsz E ty) = true ∧ off + len ≤ xs.length ∧ RM.Out S.h (k id e ty xs off len) l1 r l' ∧ ∃ A c, a.eval x = .slice A len c ∧ (0 < len → A = some ⟨G.loc id, off * tsz E ty, none⟩) := by
  unfold dstRow at h
  split at h
  rotate_left
  · exact h.elim
  rename_i el hu
  have hu := hT.und _ _ hu
  split at h
  · rename_i id hx
    have hx := ev_sound hS hx
    obtain ⟨b, hb, h⟩ := h
    dsimp only at h
    split at h
    · rename_i e ty xs
      have hb' := RM.Out_bif h; clear h; obtain ⟨hc, h⟩ := hb'
      simp only [Bool.and_eq_true] at hc
      obtain rfl := Nat.eq_of_beq_eq_true hc.1
      obtain ⟨b1, b2, b3, hrow⟩ := hS.blks id _ hb
      refine ⟨id, e, ty, xs, 0, xs.length, _, hb, hu, hc.2, by omega, h, ?_⟩
      have hxv := hx.2.1
      rcases hrow with ⟨A, hA, hnil⟩ | ⟨cap, cur, d, hhd, hcap, _⟩
      · subst hnil; exact ⟨A, 0, hxv.trans hA, fun h => by simp at h⟩
      · exact ⟨_, cap, hxv.trans hhd, fun _ => by simp⟩
    · exact h.elim
  · rename_i id off len hx
    have hx := ev_sound hS hx
    obtain ⟨b, hb, h⟩ := h
    dsimp only at h
    split at h
    · rename_i e ty xs
      have hb' := RM.Out_bif h; clear h; obtain ⟨hc, h⟩ := hb'
      simp only [Bool.and_eq_true] at hc
      obtain rfl := Nat.eq_of_beq_eq_true hc.1
      obtain ⟨hle, h⟩ := h
      simp only [decide_eq_true_eq] at hle
      obtain ⟨b1, b2, b3, _⟩ := hS.blks id _ hb
      obtain ⟨hk, _, A, c, hv, hlc, hA⟩ := hx
      exact ⟨id, e, ty, xs, off, len, _, hb, hu, hc.2, hle, h, A, c, hv, fun h0 => by rw [(hA (by omega)).1, b2]⟩
    · exact h.elim
  · exact h.elim
/-- The first cells of what is copied. -/
theorem Src.firstn {size : Nat} {x : Value} {m : Nat} {news : List Value} (h : Src P W size x m news) {n : Nat} (hn : n ≤ m) : (Builtin.firstCells size n x).run P W = .ok (news.take (n * size)).toArray W := h.cut n hn W rfl
theorem copy_sound (hT : T.OK P) (hS : Sim cx G S a.tmps W) {t u rty : TypeId} {x y : Operand} {l l' : List Nat} {r : Res E} (h : RM.Out S.h (aCopy T t (evO (lk S.ρ) x) (evO (lk S.ρ) y)) l r l') :
    Ends P cx G S a W (Builtin.copy_ #[t, u] rty #[a.eval x, a.eval y]) r := by
  obtain ⟨id, e, ty, xs, off, len, l1, hb, hu, hsz, hle, h, A, c, hx, hA⟩ := dstRow_sound hT hS h
  obtain ⟨ys, l2, hys, h⟩ := RM.Out_bind h
  obtain rfl := h.1
  obtain ⟨b1, b2, b3, _⟩ := hS.blks id _ hb
  obtain ⟨d, ds, hrow, hsrc⟩ := elems_sound (P := P) hS hys b3
  have hm : (ys.take len).length = min ys.length len := by rw [List.length_take, Nat.min_comm]
  have hcut := hsrc.firstn (n := min ys.length len) (Nat.min_le_left _ _)
  have hrow' : RowC E W G.F d ty (ys.take len) (ds.take (min ys.length len * tsz E ty)) := by
    have := hrow.take (min ys.length len) (Nat.min_le_left _ _)
    have e1 : ys.take (min ys.length len) = ys.take len := by
      apply List.ext_getElem?
      intro j
      simp only [List.getElem?_take]
      by_cases hj : j < len
      · rw [if_pos hj]
        by_cases hjy : j < ys.length
        · rw [if_pos (by omega)]
        · rw [if_neg (by omega), List.getElem?_eq_none (by omega)]
      · rw [if_neg hj, if_neg (by omega)]
    rw [e1] at this
    exact this
  obtain ⟨W', hrun, h1, h2⟩ := put_row (P := P) (off := off) hS hb hrow' (by rw [hm]; omega)
  rw [hm] at hrun h1 h2
  rw [hx]
  refine ⟨.int .i64 (min ys.length len : Nat), W', G, ?_, h1, h2, rfl⟩
  have hlen := hsrc.len W
  have hst := hrun A (fun h0 => hA (by omega))
  have hnm : Nat.min ys.length len = min ys.length len := rfl
  cases A with
  | none => simp [Builtin.copy_, run_underlying hu, hlen, sizeIs_some hT hsz, hnm, hcut, goInt]; simpa using hst
  | some ad =>
    simp [Builtin.copy_, run_underlying hu, hlen, sizeIs_some hT hsz, hnm, hcut, goInt]
    simp only at hst
    rw [hst]
    rfl
theorem clear_sound (hT : T.OK P) (hS : Sim cx G S a.tmps W) {t rty : TypeId} {x : Operand} {l l' : List Nat} {r : Res E} (h : RM.Out S.h (aClear T t (evO (lk S.ρ) x)) l r l') :
    Ends P cx G S a W (Builtin.clear_ #[t] rty #[a.eval x]) r := by
  obtain ⟨id, e, ty, xs, off, len, l1, hb, hu, hsz, hle, h, A, c, hx, hA⟩ := dstRow_sound hT hS h
  have hb' := RM.Out_bif h; clear h; obtain ⟨hz, h⟩ := hb'
  obtain ⟨z, l2, hzd, h⟩ := RM.Out_bind h
  obtain rfl := h.1
  obtain ⟨b1, b2, b3, _⟩ := hS.blks id _ hb
  obtain ⟨w, n, ie, hzr, hie, hiz, hzE⟩ := zeroD_sound hT hS hzd
  have hrow := zcells_row hzE b3 len
  obtain ⟨W', hrun, h1, h2⟩ := put_row (P := P) (off := off) hS hb hrow (by simp; omega)
  simp only [List.length_replicate] at hrun h1 h2
  rw [hx]
  refine ⟨.tuple #[], W', G, ?_, h1, h2, [], rfl, rfl⟩
  rcases Nat.eq_zero_or_pos len with h0 | h0
  · subst h0
    have hst := hrun none (fun h => by omega)
    have : W' = W := by simp at hst; exact hst.symm
    subst this
    cases A <;> simp [Builtin.clear_, run_underlying hu]
  · have hst := hrun A hA
    rw [hA h0] at hst ⊢
    have hzc : (Builtin.zeroCells w.cells len).toList = zcells w.cells len := rfl
    cases len with
    | zero => omega
    | succ len =>
      simp only at hst
      simp [Builtin.clear_, run_underlying hu, hzr, hzc, hst]
end Mir
