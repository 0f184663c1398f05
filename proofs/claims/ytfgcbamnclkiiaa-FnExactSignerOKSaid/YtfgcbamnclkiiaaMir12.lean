/- The mirror machine: literals, make, conversions. -/
import Derived.Test.YtfgcbamnclkiiaaMir11
import Derived.Laws.Tables
import Derived.Great.BuildSlice
import Derived.Lib.ConvBytes
import Derived.Laws.BytesArg
namespace Mir
set_option linter.unusedVariables false
set_option linter.unusedSimpArgs false
open Go
variable {E : Env} {P : Program} {T : Tb} {cx : Cx} {G G' : Gh} {S : St E} {tm : Array Value} {a : Act} {W W' : World}

theorem foldl_put (off : Nat) : ∀ (vs : List Value) (k : Nat) (cells : Array Value), off + k + vs.length ≤ cells.size →
    ((vs.zipIdx k).foldl (fun (cs : Array Value) (x : Value × Nat) => cs.setIfInBounds (off + x.2) x.1) cells).toList = putAt cells.toList (off + k) vs
  | [], k, cells, _ => by simp [putAt]
  | v :: vs, k, cells, h => by
    rw [List.zipIdx_cons, List.foldl_cons, foldl_put off vs (k + 1) _ (by simp at h ⊢; omega)]
    simp only [Array.toList_setIfInBounds]
    unfold putAt
    have := list_seg_step cells.toList (off + k) v vs (by simp at h ⊢; omega)
    simpa [Nat.add_assoc] using this
theorem fold_put (vs cells : Array Value) (off : Nat) (h : off + vs.size ≤ cells.size) : (vs.zipIdx.foldl (fun cs (x : Value × Nat) => cs.setIfInBounds (off + x.2) x.1) cells).toList = putAt cells.toList off vs.toList := by
  have := foldl_put off vs.toList 0 cells (by simpa using h)
  rw [← Array.foldl_toList, Array.toList_zipIdx]
  simpa using this
theorem fill_step (place : Nat → Option (Nat × Nat)) (cells : Array Value) (i : Nat) (v : Value) (rest : List (Nat × Value)) {off size : Nat} (hp : place i = some (off, size)) (hs : v.cells.size = size) (hl : off + v.cells.size ≤ cells.size) :
    Instr.fill place cells ((i, v) :: rest) = Instr.fill place (putAt cells.toList off v.cells.toList).toArray rest := by
  have h1 : ¬ (v.cells.size ≠ size || off + v.cells.size > cells.size) = true := by simp [hs]; omega
  simp only [Instr.fill, hp, if_neg h1]
  congr 1
  apply Array.ext'
  rw [fold_put _ _ _ hl]
theorem fills_sound (hT : T.OK P) (hS : Sim cx G S a.tmps W) {fs : Array Field} {place : Nat → Option (Nat × Nat)} (hp : ∀ (i : Nat) (fd : Field) (n : Nat), fs[i]? = some fd → T.size fd.type = some n → place i = some (fd.offset, n)) :
    ∀ {ps : List (Nat × Operand)} {cs cs' : List (At E)} {vs : List Value}, AtsR G S.k W cs vs → fills T fs (ps.map fun p => (p.1, evO (lk S.ρ) p.2)) cs = some cs' →
      ∃ vs', Instr.fill place vs.toArray (ps.map fun p => (p.1, a.eval p.2)) = some vs'.toArray ∧ AtsR G S.k W cs' vs'
  | [], cs, cs', vs, hr, h => by cases h; exact ⟨vs, rfl, hr⟩
  | (i, x) :: ps, cs, cs', vs, hr, h => by
    simp only [List.map_cons, fills] at h
    split at h
    · cases h
    · rename_i fd v hne hfd hv
      split at h
      · rename_i n hn
        cases hc : (Nat.beq v.cells.length n && Nat.ble (fd.offset + n) cs.length && v.cells.all okAt) with
        | false => rw [hc] at h; cases h
        | true =>
          rw [hc] at h
          simp only [cond_true] at h
          simp only [Bool.and_eq_true] at hc
          have h1 := Nat.eq_of_beq_eq_true hc.1.1
          have h2 := Nat.le_of_ble_eq_true hc.1.2
          have hx := ev_sound hS (asCv_some hv)
          have hcells := CvR.cells (K := S.k) hx hc.2
          have hl1 : (a.eval x).cells.toList.length = n := by rw [hcells.length]; exact h1
          have hl2 := hr.length
          rw [List.map_cons, fill_step place vs.toArray i (a.eval x) _ (hp i fd n hfd hn) (by simpa using hl1) (by simp at hl1 ⊢; omega)]
          exact fills_sound hT hS hp (hr.putAt hcells fd.offset) h
      · cases h
    · cases h
theorem mapM_sizes (hT : T.OK P) : ∀ (fs : List Field), fs.all (fun f => (T.size f.type).isSome) = true → ∃ places : List (Nat × Nat), fs.mapM (fun f => (P.info? f.type).map fun i => (f.offset, i.size)) = some places ∧ ∀ (i : Nat) (fd : Field) (n : Nat), fs[i]? = some fd → T.size fd.type = some n → places[i]? = some (fd.offset, n)
  | [], _ => ⟨[], rfl, fun i fd n h => by simp at h⟩
  | f :: fs, h => by
    simp only [List.all_cons, Bool.and_eq_true] at h
    obtain ⟨m, hm⟩ := Option.isSome_iff_exists.1 h.1
    have h1 := hT.size _ _ hm
    obtain ⟨i0, hi0, hsz⟩ := Option.map_eq_some_iff.1 h1
    obtain ⟨places, hp, hget⟩ := mapM_sizes hT fs h.2
    refine ⟨(f.offset, i0.size) :: places, by simp [List.mapM_cons, hi0, hp], fun i fd n hf hn => ?_⟩
    cases i with
    | zero =>
      simp at hf
      subst hf
      rw [hm] at hn
      cases hn
      simp [hsz]
    | succ i => simpa using hget i fd n (by simpa using hf) hn
theorem zero_info (hT : T.OK P) {t : TypeId} {z : Value} (h : T.zero t = some z) : ∃ i, P.info? t = some i ∧ i.zero = some z := by
  have hz := hT.zero _ _ h
  cases hi : P.info? t with
  | none => rw [hi] at hz; cases hz
  | some i => rw [hi] at hz; exact ⟨i, rfl, hz⟩

/-! ### Rows of literals -/
def FrzL (S : St E) (u : Up E) : Prop := ∀ p ∈ u, ∃ e t ys f, S.h p.1 = some (.row e t ys f) ∧ p.2 = .row e t ys true
theorem lk_mem {α : Type} : ∀ {U : List (Nat × α)} {i : Nat} {b : α}, lk U i = some b → (i, b) ∈ U
  | [], _, _, h => by cases h
  | (j, c) :: U, i, b, h => by
    rw [lk_cons] at h
    split at h
    · cases h; subst_vars; exact List.mem_cons_self ..
    · exact List.mem_cons_of_mem _ (lk_mem h)
theorem mem_lk {α : Type} : ∀ {U : List (Nat × α)} {i : Nat} {b : α}, (i, b) ∈ U → (lk U i).isSome = true
  | (j, c) :: U, i, b, h => by
    rw [lk_cons]
    split
    · rfl
    · rcases List.mem_cons.1 h with h | h
      · cases h; rename_i hne; exact absurd rfl hne
      · exact mem_lk h
theorem FrzL.keys {u : Up E} (h : FrzL S u) : ∀ id b, lk u id = some b → ∃ e t ys f, S.h id = some (.row e t ys f) ∧ b = .row e t ys true := fun id b hl => h _ (lk_mem hl)
theorem frz_all (hS : Sim cx G S tm W) : ∀ {u : Up E}, FrzL S u → Frz cx G S tm W u
  | [], _ => ⟨G.F, hS, fun _ h => h, fun id b h => by cases h⟩
  | (id, b) :: u, h => by
    obtain ⟨e, t, ys, f, hb, hbb⟩ := h (id, b) (List.mem_cons_self ..)
    dsimp only at hb hbb
    subst hbb
    have hu : FrzL S u := fun p hp => h p (List.mem_cons_of_mem _ hp)
    exact frz1 hS hu.keys (frz_all hS hu) hb
theorem frz_list : ∀ {xs : List (At E)} {l l' : List Nat} {u : Up E}, RM.Out S.h (frz xs) l u l' → FrzL S u
  | [], _, _, _, h => by rw [h.1]; exact fun p hp => by cases hp
  | .own i :: xs, l, l', u, h => by
    obtain ⟨c, hc, h⟩ := h
    dsimp only at h
    split at h
    · obtain ⟨u', l1, h1, h⟩ := RM.Out_bind h
      obtain rfl := h.1
      intro p hp
      rcases List.mem_cons.1 hp with rfl | hp
      · exact ⟨_, _, _, _, hc, rfl⟩
      · exact frz_list h1 p hp
    · exact h.elim
  | .sub i _ _ :: xs, l, l', u, h => by
    obtain ⟨c, hc, h⟩ := h
    dsimp only at h
    split at h
    · obtain ⟨u', l1, h1, h⟩ := RM.Out_bind h
      obtain rfl := h.1
      intro p hp
      rcases List.mem_cons.1 hp with rfl | hp
      · exact ⟨_, _, _, _, hc, rfl⟩
      · exact frz_list h1 p hp
    · exact h.elim
  | .int _ _ :: xs, _, _, _, h => frz_list (xs := xs) h
  | .bool _ :: xs, _, _, _, h => frz_list (xs := xs) h
  | .str _ :: xs, _, _, _, h => frz_list (xs := xs) h
  | .ro _ _ _ :: xs, _, _, _, h => frz_list (xs := xs) h
  | .ptr _ _ :: xs, _, _, _, h => frz_list (xs := xs) h
  | .eptr _ _ _ :: xs, _, _, _, h => frz_list (xs := xs) h
  | .nils :: xs, _, _, _, h => frz_list (xs := xs) h
  | .nilp :: xs, _, _, _, h => frz_list (xs := xs) h
  | .dead :: xs, _, _, _, h => frz_list (xs := xs) h
  | .undef :: xs, _, _, _, h => frz_list (xs := xs) h
/-- The rows that cells lead to are among U. -/
def Among (u : Up E) : At E → Prop
  | .own id => (lk u id).isSome = true
  | .sub id _ _ => (lk u id).isSome = true
  | _ => True
theorem frz_among (hS : Sim cx G S tm W) {xs : List (At E)} {l l' : List Nat} {u : Up E} (h : RM.Out S.h (frz xs) l u l') : ∀ x ∈ xs, Among u x := fun x hx => by
  have := (frz_sound hS h).2 x hx
  cases x <;> exact this
theorem Among.app {u v : Up E} {x : At E} (h : Among u x ∨ Among v x) : Among (u ++ v) x := by
  cases x <;> simp only [Among, lk_append] at * <;> (rcases h with h | h)
  all_goals (cases hl : lk u _ with
    | none => first | (rw [hl] at h; cases h) | exact h
    | some b => rfl)
theorem Among.inF {u : Up E} (hu : FrzL S u) {F' : Nat → Prop} (hf : ∀ id b, lk u id = some b → ∀ k, Occ G id b k → F' k) {x : At E} (h : Among u x) : InF G S F' x := by
  have key : ∀ id, (lk u id).isSome = true → ∀ b k, S.h id = some b → Occ G id b k → F' k := by
    intro id hs b k hb ho
    obtain ⟨b', hl⟩ := Option.isSome_iff_exists.1 hs
    obtain ⟨e, t, ys, f, h2, rfl⟩ := hu.keys id b' hl
    rw [hb] at h2
    cases h2
    exact hf id _ hl k ho
  cases x <;> first | trivial | exact key _ h
theorem ofCv_sound (hS : Sim cx G S tm W) {F : Nat → Prop} (hF : ∀ b, G.F b → F b) {t : Ty} {v : Cv E} {w : Value} (hok : v.cells.all okAt = true) (hv : CvR G S.k W v w) (hi : ∀ x ∈ v.cells, InF G S F x) {l l' : List Nat} {d : Ty.D E.S t} (h : RM.Out S.h (ofCv E t v) l d l') :
    ∃ n, RoE E (RoA E W F n) t d w.cells.toList := by
  have hcells := CvR.cells (K := S.k) hv hok
  cases v with
  | agg xs =>
    cases t with
    | st n =>
      obtain ⟨x, l1, h1, h⟩ := RM.Out_bind h
      obtain rfl := h.1
      obtain ⟨m, hm⟩ := ofAts_sound hS hF hcells hi h1
      exact ⟨m, by show RoL E _ _ (E.opn n (E.shut n x)) _; rw [E.opn_shut]; exact hm⟩
    | _ => exact h.elim
  | arr k n xs => cases t <;> exact h.elim
  | «at» x =>
    have h' : (∃ n, t = .st n) ∨ RM.Out S.h (ofAt E t x) l d l' := by
      cases t with
      | st n => exact .inl ⟨n, rfl⟩
      | _ => exact .inr h
    rcases h' with ⟨n, rfl⟩ | h'
    · exact h.elim
    · obtain ⟨w', r', hw, ha, hr'⟩ := hcells
      rw [AtsR] at hr'
      subst hr'
      obtain ⟨m, hm⟩ := ofAt_sound hS hF ha (hi x (by simp [Cv.cells])) h'
      rw [hw]
      cases t with
      | st n => exact h.elim
      | _ => exact ⟨m, w', rfl, hm⟩
/-- The parts of a literal. -/
def PartsR (W : World) (F : Nat → Prop) (ty : Ty) : List (Nat × Ty.D E.S ty) → List (Nat × Value) → Prop
  | [], ws => ws = []
  | (i, d) :: r, ws => ∃ w q, ws = (i, w) :: q ∧ (∃ n, RoE E (RoA E W F n) ty d w.cells.toList) ∧ PartsR W F ty r q
theorem elemsL_sound (hS : Sim cx G S a.tmps W) {ty : Ty} : ∀ {ps : List (Nat × Operand)} {l l' : List Nat} {q : List (Nat × Ty.D E.S ty) × Up E}, RM.Out S.h (elemsL E ty (ps.map fun p => (p.1, evO (lk S.ρ) p.2))) l q l' →
    FrzL S q.2 ∧ ∀ F : Nat → Prop, (∀ b, G.F b → F b) → (∀ x, Among q.2 x → InF G S F x) → PartsR W F ty q.1 (ps.map fun p => (p.1, a.eval p.2))
  | [], _, _, _, h => by rw [h.1]; exact ⟨fun p hp => (by cases hp), fun _ _ _ => rfl⟩
  | (i, x) :: ps, l, l', q, h => by
    simp only [List.map_cons, elemsL] at h
    split at h
    · rename_i v hv
      have hb' := RM.Out_bif h; clear h; obtain ⟨hok, h⟩ := hb'
      obtain ⟨u, l1, h1, h⟩ := RM.Out_bind h
      obtain ⟨d, l2, h2, h⟩ := RM.Out_bind h
      obtain ⟨q', l3, h3, h⟩ := RM.Out_bind h
      obtain rfl := h.1
      obtain ⟨hf, hp⟩ := elemsL_sound hS h3
      have hx := ev_sound hS (asCv_some hv)
      refine ⟨fun p hp => ?_, fun F hF hin => ⟨_, _, rfl, ?_, hp F hF (fun x hx => hin x (Among.app (.inr hx)))⟩⟩
      · rcases List.mem_append.1 hp with hp | hp
        · exact frz_list h1 p hp
        · exact hf p hp
      · exact ofCv_sound hS hF hok hx (fun y hy => hin y (Among.app (.inl (frz_among hS h1 y hy)))) h2
    · exact h.elim
theorem RowC.set {F : Nat → Prop} {d n : Nat} {t : Ty} {xs : List (Ty.D E.S t)} {cs vs : List Value} {x : Ty.D E.S t} {i : Nat} (h : RowC E W F d t xs cs) (hi : i < xs.length) (hx : RoE E (RoA E W F n) t x vs) : RowC E W F (max d n) t (xs.set i x) (putAt cs (i * tsz E t) vs) := by
  have hvl := hx.length
  have hle : i * tsz E t + tsz E t ≤ cs.length := by
    rw [h.1]
    have : (i + 1) * tsz E t ≤ xs.length * tsz E t := Nat.mul_le_mul_right _ hi
    rw [Nat.add_mul] at this
    omega
  refine ⟨by rw [putAt_length _ _ _ (by omega), List.length_set]; exact h.1, fun j hj => ?_⟩
  have e : putAt cs (i * tsz E t) vs = putAt cs (i * tsz E t + 0) vs := rfl
  by_cases hji : j = i
  · subst hji
    rw [e, seg_put_same _ _ _ _ _ hle (by omega)]
    simp only [List.getElem_set_self]
    have hp : putAt (seg cs j (tsz E t)) 0 vs = vs := by
      have : (seg cs j (tsz E t)).length = tsz E t := by unfold seg; simp; omega
      unfold putAt
      simp
      omega
    rw [hp]
    exact hx.mono fun t x v => RoA.more (fun _ h => h) (fun _ _ => rfl) n _ (Nat.le_max_right _ _) t x v
  · rw [e, seg_put_other _ _ _ _ _ _ hle (by omega) hji, List.getElem_set_ne (fun e => hji e.symm)]
    exact (h.2 j (by simpa using hj)).mono fun t x v => RoA.more (fun _ h => h) (fun _ _ => rfl) d _ (Nat.le_max_left _ _) t x v
theorem fillL_sound {F : Nat → Prop} {ty : Ty} {sz : Nat} (hsz : sz = tsz E ty) : ∀ {ps : List (Nat × Ty.D E.S ty)} {ws : List (Nat × Value)} {xs xs' : List (Ty.D E.S ty)} {cs : List Value} {d : Nat}, PartsR W F ty ps ws → RowC E W F d ty xs cs → fillL ps xs = some xs' →
    ∃ d' cs', Instr.fill (fun i => some (i * sz, sz)) cs.toArray ws = some cs'.toArray ∧ RowC E W F d' ty xs' cs' ∧ xs'.length = xs.length
  | [], ws, xs, xs', cs, d, hp, hr, h => by cases h; rw [PartsR] at hp; subst hp; exact ⟨d, cs, rfl, hr, rfl⟩
  | (i, x) :: ps, ws, xs, xs', cs, d, ⟨w, q, hw, ⟨n, hn⟩, hp⟩, hr, h => by
    subst hw
    simp only [fillL] at h
    cases hb : Nat.blt i xs.length with
    | false => rw [hb] at h; cases h
    | true =>
      rw [hb] at h
      simp only [cond_true] at h
      have hi : i < xs.length := Nat.le_of_ble_eq_true hb
      have hvl := hn.length
      have hle : i * tsz E ty + tsz E ty ≤ cs.length := by
        rw [hr.1]
        have : (i + 1) * tsz E ty ≤ xs.length * tsz E ty := Nat.mul_le_mul_right _ hi
        rw [Nat.add_mul] at this
        omega
      rw [fill_step (fun i => some (i * sz, sz)) cs.toArray i w q rfl (by rw [hsz]; simpa using hvl) (by simp at hvl ⊢; rw [hsz]; omega)]
      obtain ⟨d', cs', h1, h2, h3⟩ := fillL_sound hsz hp (hr.set hi hn) h
      rw [hsz] at h1 ⊢
      exact ⟨d', cs', h1, h2, by rw [h3]; simp⟩
/-- Zero cells. -/
def zcells (z : Array Value) (n : Nat) : List Value := ((Array.range (n * z.size)).map (z[· % z.size]!)).toList
theorem zcells_row {F : Nat → Prop} {d : Nat} {ty : Ty} {z : Array Value} {x : Ty.D E.S ty} (h : RoE E (RoA E W F d) ty x z.toList) (h0 : 0 < tsz E ty) (n : Nat) : RowC E W F d ty (List.replicate n x) (zcells z n) := by
  have hz : z.size = tsz E ty := by have := h.length; simpa using this
  refine ⟨by simp [zcells, hz], fun i hi => ?_⟩
  have hi' : i < n := by simpa using hi
  have hs : seg (zcells z n) i (tsz E ty) = z.toList := by
    apply List.ext_getElem?
    intro j
    rw [seg_get]
    by_cases hj : j < tsz E ty
    · rw [if_pos hj]
      have hlt : i * tsz E ty + j < n * tsz E ty := by
        have : (i + 1) * tsz E ty ≤ n * tsz E ty := Nat.mul_le_mul_right _ hi'
        rw [Nat.add_mul] at this
        omega
      have hmod : (i * tsz E ty + j) % tsz E ty = j := by rw [Nat.mul_comm, Nat.mul_add_mod, Nat.mod_eq_of_lt hj]
      unfold zcells
      rw [hz]
      have hzj : j < z.size := by rw [hz]; exact hj
      simp [hlt, hmod, hzj]
    · rw [if_neg hj, List.getElem?_eq_none (by simp; omega)]
  rw [hs, List.getElem_replicate]
  exact h
theorem atsOfVals_inF {F : Nat → Prop} : ∀ {vs : List Value} {xs : List (At E)}, atsOfVals vs = some xs → ∀ x ∈ xs, InF G S F x
  | [], _, h, x, hx => by cases h; cases hx
  | v :: vs, xs, h, x, hx => by
    unfold atsOfVals at h
    split at h
    · rename_i y ys h1 h2
      cases h
      rcases List.mem_cons.1 hx with rfl | hx
      · unfold atOfVal at h1
        split at h1 <;> cases h1 <;> trivial
      · exact atsOfVals_inF h2 x hx
    · cases h
theorem zeroCv_inF {F : Nat → Prop} {t : TypeId} {v : Cv E} (h : T.zeroCv E t = some v) : ∀ x ∈ v.cells, InF G S F x := by
  unfold Tb.zeroCv at h
  split at h
  · split at h
    · rename_i k cs _ hz
      cases hc : (cs.toList.all (isZ k) && Nat.beq cs.toList.length _) with
      | false => rw [hc] at h; cases h
      | true =>
        rw [hc] at h
        cases h
        intro x hx
        simp only [Cv.cells, List.mem_map] at hx
        obtain ⟨_, _, rfl⟩ := hx
        trivial
    · cases h
  · split at h
    · rename_i z hz
      unfold cvOfVal at h
      split at h
      · obtain ⟨xs, h1, rfl⟩ := Option.map_eq_some_iff.1 h
        exact atsOfVals_inF h1
      · obtain ⟨x, h1, rfl⟩ := Option.map_eq_some_iff.1 h
        intro y hy
        simp only [Cv.cells, List.mem_singleton] at hy
        subst hy
        unfold atOfVal at h1
        split at h1 <;> cases h1 <;> trivial
    · cases h
theorem zeroD_sound (hT : T.OK P) (hS : Sim cx G S tm W) {e : TypeId} {ty : Ty} {l l' : List Nat} {z : Ty.D E.S ty} (h : RM.Out S.h (zeroD T E e ty) l z l') : ∃ w n i, (∀ W : World, (zeroValue e).run P W = .ok w W) ∧ P.info? e = some i ∧ i.zero = some w ∧ RoE E (RoA E W G.F n) ty z w.cells.toList := by
  unfold zeroD at h
  split at h
  · rename_i v hv
    have hb' := RM.Out_bif h; clear h; obtain ⟨hok, h⟩ := hb'
    obtain ⟨w, hw, hr, i, hi, hiz⟩ := zero_sound hT hv (K := S.k)
    obtain ⟨n, hn⟩ := ofCv_sound hS (fun _ h => h) hok (hr G W) (zeroCv_inF hv) h
    exact ⟨w, n, i, hw, hi, hiz, hn⟩
  · exact h.elim
theorem newRow_run (e : TypeId) (cs : Array Value) (W : World) : (Go.newRow e cs).run P W = .ok ⟨W.heap.size, 0, none⟩ (W.alloc (.cells cs e)) := rfl
theorem buildSlice_sound (hT : T.OK P) {fr : Nat} (hf : lk S.H fr = none) (hS : Sim cx G S a.tmps W) {t : TypeId} {len : Nat} {parts : Array (Nat × Operand)} {l l' : List Nat} {r : Res E} (h : RM.Out S.h (aBuildSlice T fr t len (parts.toList.map fun p => (p.1, evO (lk S.ρ) p.2))) l r l') :
    Ends P cx G S a W (Instr.buildSlice t len (parts.map fun (i, x) => (i, a.eval x))) r := by
  unfold aBuildSlice at h
  split at h
  rotate_left
  · exact h.elim
  rename_i e ty helem
  have hu := Tb.elem_some hT helem
  split at h
  rotate_left
  · exact h.elim
  rename_i sz hsz
  have hb' := RM.Out_bif h; clear h; obtain ⟨hc, h⟩ := hb'
  simp only [Bool.and_eq_true] at hc
  obtain ⟨⟨⟨hc1, hc2⟩, hc3⟩, hc4⟩ := hc
  obtain rfl := Nat.eq_of_beq_eq_true hc1
  have hpos : 0 < tsz E ty := Nat.le_of_ble_eq_true hc2
  have hsmall := Nat.le_of_ble_eq_true hc3
  obtain ⟨z, l1, hz, h⟩ := RM.Out_bind h
  obtain ⟨q, l2, hq, h⟩ := RM.Out_bind h
  obtain ⟨w, n, ie, hzr, hie, hiz, hzE⟩ := zeroD_sound hT hS hz
  split at h
  rotate_left
  · exact h.elim
  rename_i xs hfill
  obtain rfl := h.1
  obtain ⟨hfl, hparts⟩ := elemsL_sound hS hq
  obtain ⟨F', hS1, hF1, hf1⟩ := frz_all hS hfl
  have hp := hparts F' hF1 (fun x hx => Among.inF hfl hf1 hx)
  have hrow := zcells_row (hzE.mono fun t x v => RoA.more hF1 (fun _ _ => rfl) n n (Nat.le_refl _) t x v) hpos len
  obtain ⟨d, cs, hfr, hr, hxl⟩ := fillL_sound rfl hp hrow hfill
  have hzs : w.cells.size = tsz E ty := by have := hzE.length; simpa using this
  have hrun : (Instr.buildSlice t len (parts.map fun (i, x) => (i, a.eval x))).run P W = .ok (.slice (some ⟨W.heap.size, 0, none⟩) len len) (W.alloc (.cells cs.toArray e)) := by
    have hsm : ¬ len * tsz E ty > 2 ^ 24 := by omega
    have hisz : ie.size = tsz E ty := by
      have := hT.size _ _ hsz
      rw [hie] at this
      simpa using this
    have hparts' : (parts.map fun (i, x) => (i, a.eval x)).toList = parts.toList.map fun p => (p.1, a.eval p.2) := by simp
    by_cases h0 : len * tsz E ty = 0
    · have h00 : len = 0 := by
        rcases Nat.mul_eq_zero.1 h0 with h | h
        · exact h
        · omega
      subst h00
      have hz0 : (zcells w.cells 0).toArray = #[] := by simp [zcells]
      rw [hz0] at hfr
      simp [Instr.buildSlice, run_underlying hu, Go.sizeOf, typeInfo, hie, hisz]
      rw [show Array.map (fun _ => (default : Value)) (Array.range 0) = #[] by (apply Array.ext'; simp), hfr]
      rfl
    · refine run_buildSlice W t e len _ cs.toArray ie w hu hie hiz (by rw [hisz]; exact hsm) (by rw [hisz]; exact h0) ?_
      rw [hparts', hisz, ← hfr]
      congr 1
      simp only [zcells, Array.toArray_toList]
      rw [hzs]
  have hlen : xs.length = len := by rw [hxl]; simp
  have hf' : lk (q.2 ++ S.H) fr = none := by
    rw [lk_append]
    cases hl : lk q.2 fr with
    | none => exact hf
    | some b =>
      obtain ⟨_, _, _, _, h2, _⟩ := hfl.keys fr b hl
      have := St.h_k h2
      unfold St.k at this
      rw [hf] at this; cases this
  obtain ⟨G', h1, h2, h3⟩ := fresh_row (W' := W.alloc (.cells (cs ++ []).toArray e)) (S := { S with H := q.2 ++ S.H }) hS1 hf' [] (fun i b h => by cases h) hpos hr (Nat.le_of_eq hlen) (by simp only [maxLen]; have := Nat.le_mul_of_pos_right len hpos; omega) (by rw [List.append_nil, hr.1, hlen]; exact Nat.le_refl _) (.inl rfl)
  rw [List.append_nil] at h1 h2 h3
  rw [hlen] at h3
  have hE1 : Ext G S.k W { G with F := F' } (St.k { S with H := q.2 ++ S.H }) W := ext_F hF1
  exact ⟨_, _, _, hrun, h1, hE1.trans h2, h3⟩
theorem zcells_len (z : Array Value) (n : Nat) : (zcells z n).length = n * z.size := by simp [zcells]
theorem makeSlice_sound (hT : T.OK P) {fr : Nat} (hf : lk S.H fr = none) (hS : Sim cx G S a.tmps W) {t : TypeId} {lo co : Operand} {l l' : List Nat} {r : Res E} (h : RM.Out S.h (aMakeSlice T fr t (opdEq lo co) (evO (lk S.ρ) lo) (evO (lk S.ρ) co)) l r l') :
    Ends P cx G S a W (Instr.makeSlice t (a.eval lo) (a.eval co)) r := by
  unfold aMakeSlice at h
  split at h
  rotate_left
  · exact h.elim
  rename_i e ty helem
  have hu := Tb.elem_some hT helem
  split at h
  rotate_left
  · exact h.elim
  rename_i b sz hby hsz
  have hb' := RM.Out_bif h; clear h; obtain ⟨hc, h⟩ := hb'
  simp only [Bool.and_eq_true] at hc
  obtain ⟨⟨⟨hc1, hc2⟩, hc3⟩, hc4⟩ := hc
  obtain rfl := Nat.eq_of_beq_eq_true hc1
  have hpos : 0 < tsz E ty := Nat.le_of_ble_eq_true hc2
  have hbpos : 0 < b := Nat.le_of_ble_eq_true hc3
  obtain ⟨z, l1, hz, h⟩ := RM.Out_bind h
  obtain ⟨w, n, ie, hzr, hie, hiz, hzE⟩ := zeroD_sound hT hS hz
  have hiby : ie.bytes = b := by have := hT.bytes _ _ hby; rw [hie] at this; simpa using this
  have hisz : ie.size = tsz E ty := by have := hT.size _ _ hsz; rw [hie] at this; simpa using this
  have hzs : w.cells.size = tsz E ty := by have := hzE.length; simpa using this
  split at h
  rotate_left
  · exact h.elim
  rename_i lv cv hl hcv
  have hlv : a.eval lo = .int .i64 lv := ev_sound hS hl
  have hcv : a.eval co = .int .i64 cv := ev_sound hS hcv
  -- the block that is made
  have made : ∀ (ln : Nat) (xs : List (Ty.D E.S ty)), 0 ≤ lv → lv ≤ cv → lv.toNat = ln → xs = List.replicate ln z → room cv.toNat b = true → Ends P cx G S a W (Instr.makeSlice t (a.eval lo) (a.eval co)) (.a (.own fr), [(fr, .row e ty xs false)]) := by
    intro ln xs h0 hle hln hxs hroom
    have hroom : cv.toNat * b ≤ 140737488355328 := by simpa [room] using hroom
    have hcb : cv.toNat ≤ cv.toNat * b := Nat.le_mul_of_pos_right _ hbpos
    have hcl : (cv.toNat : Int) = cv := by omega
    have hrun := run_make (P := P) W t e ie w hu hie hiz .i64 .i64 lv cv h0 hle (by
      rw [hiby, ← hcl, ← Int.natCast_mul, Nat.mul_comm]; omega) (by omega)
    subst hxs
    have hrow := zcells_row hzE hpos ln
    have hlc : ln * tsz E ty ≤ cv.toNat * tsz E ty := Nat.mul_le_mul_right _ (by omega)
    have hcut : zcells w.cells ln ++ (madeCells w.cells (cv.toNat * ie.size)).toList.drop (ln * tsz E ty) = (madeCells w.cells (cv.toNat * ie.size)).toList := by
      have h1 : (madeCells w.cells (cv.toNat * ie.size)).toList.take (ln * tsz E ty) = zcells w.cells ln := by
        unfold madeCells zcells
        rw [hisz, hzs]
        simp only [Array.toList_map, Array.toList_range, ← List.map_take, List.take_range, Nat.min_eq_left hlc]
      rw [← h1, List.take_append_drop]
    obtain ⟨G', h1, h2, h3⟩ := fresh_row (W' := W.alloc (.cells (zcells w.cells ln ++ (madeCells w.cells (cv.toNat * ie.size)).toList.drop (ln * tsz E ty)).toArray e)) (cap := cv.toNat) hS hf [] (fun i b h => by cases h) hpos hrow (by simp; omega) (by simp only [maxLen]; omega) (by rw [hcut]; simp [madeCells, hisz]) (.inl rfl)
    rw [hcut, Array.toArray_toList] at h1 h2 h3
    rw [List.length_replicate] at h3
    subst hln
    refine ⟨_, _, _, ?_, h1, h2, h3⟩
    rw [hlv, hcv]
    exact hrun
  cases hsame : opdEq lo co with
  | true =>
    rw [hsame] at h
    have heq : lv = cv := by
      unfold opdEq at hsame
      split at hsame
      · obtain rfl := Nat.eq_of_beq_eq_true hsame
        rw [hlv] at hcv; cases hcv; rfl
      · simp only [decide_eq_true_eq] at hsame
        subst hsame
        have e1 := hlv
        have e2 := hcv
        simp only [Act.eval, Value.int.injEq] at e1 e2
        rw [← e1.2, ← e2.2]
      · cases hsame
    subst heq
    obtain ⟨h0, hroom, h⟩ := h
    obtain rfl := h.1
    simp only [decide_eq_true_eq] at h0
    exact made lv.toNat _ h0 (Int.le_refl _) rfl rfl hroom
  | false =>
    rw [hsame] at h
    obtain ⟨h0, h1, hroom, h⟩ := h
    obtain rfl := h.1
    simp only [decide_eq_true_eq] at h0 h1
    subst h0
    exact made 0 _ (Int.le_refl _) h1 rfl rfl hroom
/-- New memory that is only read. -/
theorem Sim.roNew (hS : Sim cx G S tm W) (hold : ∀ k, k < W.heap.size → W'.heap[k]? = W.heap[k]?) (hsz : W.heap.size ≤ W'.heap.size) (hos : W'.os = W.os ∧ W'.tape = W.tape ∧ W'.output = W.output) (Q : Nat → Prop) (hQ : ∀ k, Q k → W.heap.size ≤ k ∧ k < W'.heap.size) :
    Sim cx { G with F := fun k => G.F k ∨ Q k } { S with H := [] ++ S.H } tm W' ∧ Ext G S.k W { G with F := fun k => G.F k ∨ Q k } (St.k { S with H := [] ++ S.H }) W' := by
  have hE : Ext G S.k W { G with F := fun k => G.F k ∨ Q k } (St.k { S with H := [] ++ S.H }) W' :=
    ⟨fun _ _ => rfl, fun _ _ => rfl, fun _ _ => rfl, fun _ _ => rfl, fun i hi => hi, fun _ h => .inl h, fun b hb => hold b (hS.fr b hb)⟩
  refine ⟨hS.upd [] hE ⟨hos.1.trans hS.frm.os, hos.2.1.trans hS.frm.tape, hos.2.2.trans hS.frm.output, Nat.le_trans hS.frm.size hsz, fun k hk hm => ?_⟩ hsz (fun _ _ h => by cases h) ?_ (fun _ _ _ h => by cases h) (fun _ _ _ _ _ h => by cases h) ?_ (fun _ _ _ h => by cases h), hE⟩
  · rw [hold k (Nat.lt_of_lt_of_le hk hS.frm.size)]; exact hS.frm.block k hk hm
  · intro i b k _ hb ho; exact hold k (ho.lt (hS.blks i b hb))
  · intro k hk
    rcases hk with hk | hk
    · exact .inl hk
    · exact .inr (.inl (hQ k hk))
theorem conv_sound (hT : T.OK P) (hS : Sim cx G S a.tmps W) {s t : TypeId} {x : Operand} {l l' : List Nat} {r : Res E} (h : RM.Out S.h (aConv T s t (evO (lk S.ρ) x)) l r l') : Ends P cx G S a W (convert s t (a.eval x)) r := by
  unfold aConv at h
  split at h
  · rename_i k' k k'' n hs ht hx
    have hs := hT.und _ _ hs
    have ht := hT.und _ _ ht
    have hx : a.eval x = .int _ n := ev_sound hS hx
    rw [one_sound h, hx]
    exact Ends.pure hS (w := .int k (k.wrap n)) (by simp [convert, run_underlying hs, run_underlying ht, Conv.intToInt]) rfl
  · rename_i s' hs ht hx
    have hs := hT.und _ _ hs
    have ht := hT.und _ _ ht
    have hx : a.eval x = .string s' := ev_sound hS hx
    rw [one_sound h, hx]
    exact Ends.pure hS (w := .string s') (by simp [convert, run_underlying hs, run_underlying ht]) rfl
  · rename_i e s' hs ht hx
    have hs := hT.und _ _ hs
    have ht := hT.und _ _ ht
    have hx : a.eval x = .string s' := ev_sound hS hx
    split at h
    · rename_i he
      have he := hT.und _ _ he
      rw [one_sound h, hx]
      have hrun := Lib.run_convert_string_bytes (P := P) W s t e s' hs ht he
      obtain ⟨h1, h2⟩ := hS.roNew (W' := Lib.bytesWorld W e s') (fun k hk => Lib.bytesWorld_at_old W e s' k hk) (by rw [Lib.bytesWorld_size]; omega) ⟨rfl, rfl, rfl⟩ (fun k => k = W.heap.size) (fun k hk => by rw [Lib.bytesWorld_size]; omega)
      have hl : (bytesOf s').length = s'.size := by simp [bytesOf]
      refine ⟨_, _, _, hrun, h1, h2, 1, _, _, by rw [hl], by rw [hl]; exact grownCap_ge _ _ _ _, fun h0 => ⟨_, rfl, .inr rfl, fun i hi => ⟨[.int .u8 (bytesOf s')[i]], ⟨_, rfl, rfl⟩, fun j hj => ?_⟩⟩⟩
      have hj0 : j = 0 := by simp at hj; omega
      subst hj0
      rw [add_lit]
      simp only [tsz, Nat.mul_one, Nat.add_zero, Nat.zero_add, List.getElem_cons_zero]
      have hi' : i < s'.size := by omega
      rw [Lib.bytesWorld_cell W e s' i hi']
      have hi2 : i < s'.data.toList.length := by simpa using hi'
      simp [bytesOf, List.getD_eq_getElem?_getD, List.getElem?_eq_getElem hi2]
    · exact h.elim
  · rename_i e y hs ht hx
    have hs := hT.und _ _ hs
    have ht := hT.und _ _ ht
    split at h
    · rename_i he
      have he := hT.und _ _ he
      obtain ⟨xs, l1, hxs, h⟩ := RM.Out_bind h
      rw [one_sound h]
      have hxv : AtR G S.k W y (a.eval x) := ev_sound hS hx
      obtain ⟨d, cs, hr, hsrc⟩ := ofAt_src (P := P) hS hxv (by simp [tsz]) hxs
      have hcs : cs = xs.map (Value.int .u8) := by
        apply List.ext_getElem
        · rw [hr.1]; simp [tsz]
        · intro i h1 h2
          have hi : i < xs.length := by simpa using h2
          obtain ⟨v, hv, hvv⟩ := hr.2 i hi
          have hvv : v = .int .u8 xs[i] := by cases d <;> exact hvv
          have := congrArg (·[0]?) hv
          simp only [seg_get, tsz, Nat.mul_one, Nat.add_zero] at this
          rw [if_pos (by omega), List.getElem?_eq_getElem h1] at this
          simp at this
          rw [this, hvv]
          simp
      have hsl : ∃ A c, a.eval x = .slice A xs.length c := by
        have hl := hsrc.len W
        obtain ⟨n, hn⟩ := ofAt_sound (F := fun k => True) hS (fun _ _ => trivial) hxv (by cases y <;> first | trivial | exact fun _ _ _ _ => trivial) hxs
        cases n with
        | zero => exact hn.elim
        | succ n => obtain ⟨A, c, hv, _⟩ := hn; exact ⟨A, c, hv⟩
      obtain ⟨A, c, hv⟩ := hsl
      rw [hv] at hsrc ⊢
      refine Ends.pure hS (w := .string (strOf xs)) ?_ rfl
      rw [run_convert_bytes_string W s t e A _ c hs he ht]
      have hfirst := hsrc.first W rfl
      cases A with
      | none =>
        have h0 : xs = [] := by
          simp [Builtin.firstCells] at hfirst
          rw [hcs] at hfirst
          simpa using hfirst.symm
        subst h0
        simp [Conv.bytesToString, strOf]
        rfl
      | some ad =>
        simp only [Builtin.firstCells, tsz, Nat.mul_one] at hfirst
        rw [hcs] at hfirst
        rw [run_bytesToString W _ xs.length c xs hfirst, foldl_push_bytes]
        simp [strOf, ByteArray.empty, ByteArray.emptyWithCapacity]
        rfl
    · exact h.elim
  · exact h.elim
end Mir
