/- The mirror machine: appends, literals, make. -/
import Derived.Test.YtbepkbaemapkjaaMir10
namespace Mir
set_option linter.unusedVariables false
set_option linter.unusedSimpArgs false
open Go
variable {E : Env} {P : Program} {T : Tb} {cx : Cx} {G G' : Gh} {S : St E} {tm : Array Value} {a : Act} {W W' : World}

/-- A new row, perhaps in the place of one that goes. -/
theorem Sim.newRow (hS : Sim cx G S tm W) {fr : Nat} (hf : lk S.H fr = none) (b : Blk E) (rest : Up E) (loc : Nat) (hd : Value) (ln sz : Nat) (hfz : b.fz = false)
    (hrest : ∀ id b', lk rest id = some b' → b' = .gone ∧ S.k id)
    (hW : ∀ k, k < W.heap.size → W'.heap[k]? = W.heap[k]? ∨ ∃ id b0, S.h id = some b0 ∧ Occ G id b0 k ∧ b0.fz = false ∧ (lk rest id).isSome = true)
    (hocc : ∀ k, Occ (G.add fr loc hd ln sz) fr b k → W.heap.size ≤ k ∨ ∃ id b0, S.h id = some b0 ∧ Occ G id b0 k ∧ b0.fz = false ∧ (lk rest id).isSome = true)
    (hsize : W.heap.size ≤ W'.heap.size) (hos : W'.os = W.os ∧ W'.tape = W.tape ∧ W'.output = W.output)
    (hb : ∀ (K' : Nat → Prop), (∀ i, S.k i → K' i) → Ext G S.k W (G.add fr loc hd ln sz) K' W' → BlkR (G.add fr loc hd ln sz) K' W' fr b) :
    Sim cx (G.add fr loc hd ln sz) { S with H := ((fr, b) :: rest) ++ S.H } tm W' ∧ Ext G S.k W (G.add fr loc hd ln sz) (St.k { S with H := ((fr, b) :: rest) ++ S.H }) W' := by
  have hWF : ∀ k, G.F k → W'.heap[k]? = W.heap[k]? := by
    intro k hk
    rcases hW k (hS.fr k hk) with h | ⟨id, b0, h0, ho, hz, _⟩
    · exact h
    · exact absurd hk (hS.sep id b0 k h0 ho hz)
  have hE : Ext G S.k W (G.add fr loc hd ln sz) (St.k { S with H := ((fr, b) :: rest) ++ S.H }) W' := Gh.add_ext (not_k hf) (fun i hi => k_append hi) hWF
  have hlk : ∀ i b', lk ((fr, b) :: rest) i = some b' → (i = fr ∧ b' = b) ∨ b' = .gone := by
    intro i b' h
    rw [lk_cons] at h
    split at h
    · cases h; subst_vars; exact .inl ⟨rfl, rfl⟩
    · exact .inr (hrest i b' h).1
  refine ⟨hS.upd _ hE ⟨hos.1.trans hS.frm.os, hos.2.1.trans hS.frm.tape, hos.2.2.trans hS.frm.output, Nat.le_trans hS.frm.size hsize, fun k hk hm => ?_⟩ hsize ?_ ?_ ?_ ?_ ?_ ?_, hE⟩
  · rw [← hS.frm.block k hk hm]
    rcases hW k (Nat.lt_of_lt_of_le hk hS.frm.size) with h | ⟨id, b0, h0, ho, hz, _⟩
    · exact h
    · rcases hS.own id b0 k h0 ho hz with h | h
      · omega
      · exact absurd h hm
  · intro i b' h
    rcases hlk i b' h with ⟨rfl, rfl⟩ | h
    · exact .inr (hb _ (fun i hi => k_append hi) hE)
    · exact .inl h
  · intro i b' k hn hb' ho
    rcases hW k (ho.lt (hS.blks i b' hb')) with h | ⟨id, b0, h0, ho0, hz, hs⟩
    · exact h
    · have := hS.inj i id b' b0 k hb' h0 ho ho0
      subst this
      rw [lk_cons] at hn
      split at hn
      · cases hn
      · rw [hn] at hs; cases hs
  · intro i b' k h ho
    rcases hlk i b' h with ⟨rfl, rfl⟩ | h
    · rcases hocc k ho with h | ⟨id, b0, h0, ho0, hz, hs⟩
      · exact .inl h
      · exact .inr ⟨id, b0, h0, ho0, .inl hz, lk_mono _ _ _ hs⟩
    · subst h; exact ho.elim
  · intro i j bi bj k hi hj hoi hoj
    rcases hlk i bi hi with ⟨rfl, rfl⟩ | h
    · rcases hlk j bj hj with ⟨rfl, rfl⟩ | h
      · rfl
      · subst h; exact hoj.elim
    · subst h; exact hoi.elim
  · intro k hk; exact .inl hk
  · intro i b' k h ho
    rcases hlk i b' h with ⟨rfl, rfl⟩ | h
    · refine ⟨fun h => (by rw [hfz] at h; cases h), fun _ hk => ?_⟩
      rcases hocc k ho with h | ⟨id, b0, h0, ho0, hz, hs⟩
      · have := hS.fr k hk; omega
      · exact hS.sep id b0 k h0 ho0 hz hk
    · subst h; exact ho.elim
theorem drewAlloc_old (W : World) (o : Obj) (k : Nat) (h : k < W.heap.size) : (W.drew.alloc o).heap[k]? = W.heap[k]? := heap_alloc_old W.drew o k h
theorem drewAlloc_new (W : World) (o : Obj) : (W.drew.alloc o).heap[W.heap.size]? = some o := heap_alloc_new W.drew o
/-- A row in a new block. -/
theorem fresh_rowG (hS : Sim cx G S tm W) {fr : Nat} (hf : lk S.H fr = none) (rest : Up E) (hrest : ∀ id b', lk rest id = some b' → b' = .gone ∧ S.k id) {e : Nat} {t : Ty} {xs : List (Ty.D E.S t)} {cs tail : List Value} {d cap : Nat} (hsz : 0 < tsz E t)
    (hr : RowC E W G.F d t xs cs) (hcap : xs.length ≤ cap) (hmax : cap ≤ maxLen) (htail : cap * tsz E t ≤ (cs ++ tail).length)
    (hold : ∀ k, k < W.heap.size → W'.heap[k]? = W.heap[k]?) (hnew : CellsAt W' W.heap.size (cs ++ tail).toArray e) (hsize : W.heap.size ≤ W'.heap.size) (hos : W'.os = W.os ∧ W'.tape = W.tape ∧ W'.output = W.output) :
    ∃ G', Sim cx G' { S with H := ((fr, .row e t xs false) :: rest) ++ S.H } tm W' ∧ Ext G S.k W G' (St.k { S with H := ((fr, Blk.row e t xs false) :: rest) ++ S.H }) W' ∧ AVR (E := E) G' (St.k { S with H := ((fr, Blk.row e t xs false) :: rest) ++ S.H }) W' (.a (.own fr)) (.slice (some ⟨W.heap.size, 0, none⟩) xs.length cap) := by
  obtain ⟨h1, h2⟩ := hS.newRow (W' := W') hf (.row e t xs false) rest W.heap.size (.slice (some ⟨W.heap.size, 0, none⟩) xs.length cap) xs.length (tsz E t) rfl hrest (fun k hk => .inl (hold k hk))
    (fun k ho => .inl (by have := ho.1; simp only [Gh.add, updf_same] at this; omega)) hsize hos (fun K' hK hE => by
      refine ⟨by simp [Gh.add, updf_same], by simp [Gh.add, updf_same], hsz, ?_⟩
      simp only [Gh.add, updf_same]
      rcases Nat.eq_zero_or_pos cap with h0 | h0
      · have hx : xs = [] := List.eq_nil_of_length_eq_zero (by omega)
        exact .inl ⟨some ⟨W.heap.size, 0, none⟩, by rw [hx, h0]; rfl, hx⟩
      · refine .inr ⟨cap, (cs ++ tail).toArray, d, rfl, h0, hnew, hcap, hmax, by simpa using htail, fun i hi => ?_⟩
        have := (hr.2 i hi).mono fun t x v => RoA.more (fun _ h => h) hE.W d d (Nat.le_refl _) t x v
        rw [← seg_append_left cs tail] at this
        · exact this
        · rw [hr.1]
          have : (i + 1) * tsz E t ≤ xs.length * tsz E t := Nat.mul_le_mul_right _ hi
          rw [Nat.add_mul] at this
          omega)
  refine ⟨_, h1, h2, ?_, by simp [Gh.add, updf_same], _, _, _, rfl⟩
  unfold St.k; simp [lk_cons]
/-- A row in a new block. -/
theorem fresh_row (hS : Sim cx G S tm W) {fr : Nat} (hf : lk S.H fr = none) (rest : Up E) (hrest : ∀ id b', lk rest id = some b' → b' = .gone ∧ S.k id) {e : Nat} {t : Ty} {xs : List (Ty.D E.S t)} {cs tail : List Value} {d cap : Nat} (hsz : 0 < tsz E t)
    (hr : RowC E W G.F d t xs cs) (hcap : xs.length ≤ cap) (hmax : cap ≤ maxLen) (htail : cap * tsz E t ≤ (cs ++ tail).length)
    (hW' : W' = W.alloc (.cells (cs ++ tail).toArray e) ∨ W' = W.drew.alloc (.cells (cs ++ tail).toArray e)) :
    ∃ G', Sim cx G' { S with H := ((fr, .row e t xs false) :: rest) ++ S.H } tm W' ∧ Ext G S.k W G' (St.k { S with H := ((fr, Blk.row e t xs false) :: rest) ++ S.H }) W' ∧ AVR (E := E) G' (St.k { S with H := ((fr, Blk.row e t xs false) :: rest) ++ S.H }) W' (.a (.own fr)) (.slice (some ⟨W.heap.size, 0, none⟩) xs.length cap) := by
  have hold : ∀ k, k < W.heap.size → W'.heap[k]? = W.heap[k]? := by rcases hW' with rfl | rfl; exact fun k h => heap_alloc_old W _ k h; exact fun k h => drewAlloc_old W _ k h
  have hnew : W'.heap[W.heap.size]? = some (.cells (cs ++ tail).toArray e (0, 0)) := by rcases hW' with rfl | rfl; exact heap_alloc_new W _; exact drewAlloc_new W _
  have hsize : W.heap.size ≤ W'.heap.size := by rcases hW' with rfl | rfl <;> simp
  have hos : W'.os = W.os ∧ W'.tape = W.tape ∧ W'.output = W.output := by rcases hW' with rfl | rfl <;> exact ⟨rfl, rfl, rfl⟩
  exact fresh_rowG hS hf rest hrest hsz hr hcap hmax htail hold (.of hnew) hsize hos
theorem zeroCells_length (z : Array Value) (n : Nat) : (Builtin.zeroCells z n).toList.length = n * z.size := by simp [Builtin.zeroCells]
/-- The row that an owned block is. -/
theorem row_cells {id : Nat} {e : Nat} {t : Ty} {xs : List (Ty.D E.S t)} {cur : Array Value} {cap d : Nat} (hcur : cap * tsz E t ≤ cur.size) (hlen : xs.length ≤ cap) (hel : ∀ (i : Nat) (hi : i < xs.length), RoE E (RoA E W G.F d) t xs[i] ((cur.toList.drop (i * tsz E t)).take (tsz E t))) :
    RowC E W G.F d t xs (cur.toList.take (xs.length * tsz E t)) := by
  have hm : xs.length * tsz E t ≤ cap * tsz E t := Nat.mul_le_mul_right _ hlen
  refine ⟨by simp; omega, fun i hi => ?_⟩
  have he : seg (cur.toList.take (xs.length * tsz E t)) i (tsz E t) = seg cur.toList i (tsz E t) := by
    apply List.ext_getElem?
    intro j
    rw [seg_get, seg_get]
    by_cases hj : j < tsz E t
    · rw [if_pos hj, if_pos hj, List.getElem?_take, if_pos]
      have : (i + 1) * tsz E t ≤ xs.length * tsz E t := Nat.mul_le_mul_right _ hi
      rw [Nat.add_mul] at this
      omega
    · rw [if_neg hj, if_neg hj]
  rw [he]
  exact hel i hi
theorem ofAt_src (hS : Sim cx G S tm W) {e : Nat} {t : Ty} {x : At E} {v : Value} (hx : AtR G S.k W x v) (h0 : 0 < tsz E t) {l l' : List Nat} {ys : List (Ty.D E.S t)} (h : RM.Out S.h (srcAt E e t x) l ys l') :
    ∃ d cs, RowC E W G.F d t ys cs ∧ Src P W (tsz E t) v ys.length cs := by
  cases x with
  | ro e' t' xs =>
    obtain ⟨rfl, rfl, rfl⟩ := castR_sound h
    obtain ⟨n, hn⟩ := hx
    cases n with
    | zero => exact hn.elim
    | succ n =>
      have hn' := hn
      obtain ⟨A, c, hv', _⟩ := hn'
      rw [hv'] at hn ⊢
      obtain ⟨_, cs, hr, hs⟩ := hn.src (P := P) h0
      exact ⟨n, cs, hr, hs⟩
  | own id =>
    obtain ⟨b, hb, h⟩ := h
    have hB := hS.blks id b hb
    dsimp only at h
    split at h
    · rename_i e' t' xs f
      obtain ⟨rfl, rfl, rfl⟩ := castR_sound h
      obtain ⟨b1, b2, b3, hrow⟩ := hB
      rw [hx.2.1]
      rcases hrow with ⟨A, hA, hnil⟩ | ⟨cap, cur, d, hhd, hcap, hh, hlen, hmax, hcur, hel⟩
      · subst hnil
        rw [hA]
        exact ⟨0, [], ⟨by simp, fun i hi => absurd hi (by simp)⟩, Src.slice (by simp) (fun h => absurd h (by simp)) (fun _ => rfl)⟩
      · have hr := row_cells (G := G) (W := W) (id := id) (e := e) hcur hlen hel
        rw [hhd]
        refine ⟨d, _, hr, Src.slice hr.1 (fun _ => ⟨_, rfl, fun j hj => ?_⟩) (fun h => ?_)⟩
        · rw [hh.cell _ _ rfl]
          simp at hj ⊢
        · have h1 := hr.1
          rw [h] at h1
          rcases Nat.mul_eq_zero.1 h1.symm with h | h
          · exact h
          · omega
    · exact h.elim
  | sub id off len =>
    obtain ⟨b, hb, h⟩ := h
    have hB := hS.blks id b hb
    dsimp only at h
    split at h
    · rename_i e' t' xs f
      obtain ⟨hlen', h⟩ := h
      simp only [decide_eq_true_eq] at hlen'
      obtain ⟨rfl, rfl, rfl⟩ := castR_sound h
      obtain ⟨b1, b2, b3, hrow⟩ := hB
      obtain ⟨hk, hol, A, c, hv, hlc, hA⟩ := hx
      have hl : ((xs.drop off).take len).length = len := by simp; omega
      rw [hv]
      show ∃ d cs, RowC E W G.F d t' ((xs.drop off).take len) cs ∧ Src P W (tsz E t') _ ((xs.drop off).take len).length cs
      rw [hl]
      rcases hrow with ⟨A', hA', hnil⟩ | ⟨cap, cur, d, hhd, hcap, hh, hlen, hmax, hcur, hel⟩
      · subst hnil
        have h00 : len = 0 := by simp at hlen'; omega
        subst h00
        exact ⟨0, [], ⟨by simp, fun i hi => absurd hi (by simp)⟩, Src.slice (by simp) (fun h => absurd h (by simp)) (fun _ => rfl)⟩
      · have hr := row_cells (G := G) (W := W) (id := id) (e := e) hcur hlen hel
        have hcl : ((cur.toList.drop (off * tsz E t')).take (len * tsz E t')).length = len * tsz E t' := by
          have : (off + len) * tsz E t' ≤ cap * tsz E t' := Nat.mul_le_mul_right _ (by omega)
          rw [Nat.add_mul] at this
          simp; omega
        refine ⟨d, (cur.toList.drop (off * tsz E t')).take (len * tsz E t'), ⟨by rw [hcl, hl], fun i hi => ?_⟩, Src.slice hcl (fun h0 => ⟨_, (hA ?_).1, fun j hj => ?_⟩) (fun h => ?_)⟩
        · have hi' : i < len := by omega
          have := hel (off + i) (by omega)
          have he : seg ((cur.toList.drop (off * tsz E t')).take (len * tsz E t')) i (tsz E t') = seg cur.toList (off + i) (tsz E t') := by
            apply List.ext_getElem?
            intro j
            rw [seg_get, seg_get]
            by_cases hj : j < tsz E t'
            · rw [if_pos hj, if_pos hj, List.getElem?_take, if_pos, List.getElem?_drop]
              · congr 1
                rw [Nat.add_mul]
                omega
              · have : (i + 1) * tsz E t' ≤ len * tsz E t' := Nat.mul_le_mul_right _ hi'
                rw [Nat.add_mul] at this
                omega
            · rw [if_neg hj, if_neg hj]
          rw [he]
          unfold seg
          simpa using this
        · rcases Nat.eq_zero_or_pos len with h | h
          · subst h; simp at h0
          · omega
        · rw [b2, hh.cell _ _ rfl]
          have hj' : j < len * tsz E t' := by rw [← hcl]; exact hj
          have hjc : off * tsz E t' + j < cur.size := by
            rw [hcl] at hj
            have : (off + len) * tsz E t' ≤ cap * tsz E t' := Nat.mul_le_mul_right _ (by omega)
            rw [Nat.add_mul] at this
            omega
          rw [Array.getElem?_eq_getElem hjc]
          simp
        · rw [hcl] at h
          rcases Nat.mul_eq_zero.1 h with h | h
          · exact h
          · omega
    · exact h.elim
  | nils =>
    obtain rfl := h.1
    obtain ⟨A, hv⟩ := hx
    rw [hv]
    exact ⟨0, [], ⟨by simp, fun i hi => absurd hi (by simp)⟩, Src.slice (by simp) (fun h => absurd h (by simp)) (fun _ => rfl)⟩
  | _ => exact h.elim
theorem elems_sound (hS : Sim cx G S a.tmps W) {e : TypeId} {ty : Ty} {y : Operand} {l l' : List Nat} {ys : List (Ty.D E.S ty)} (h : RM.Out S.h (elems E e ty (evO (lk S.ρ) y)) l ys l') (h0 : 0 < tsz E ty) :
    ∃ d cs, RowC E W G.F d ty ys cs ∧ Src P W (tsz E ty) (a.eval y) ys.length cs := by
  unfold elems at h
  split at h
  · rename_i s hy
    have hy := ev_sound hS hy
    split at h
    · obtain rfl := h.1
      rw [show a.eval y = .string s from hy]
      refine ⟨0, (bytesOf s).map (Value.int .u8), ⟨by simp [tsz], fun i hi => ?_⟩, ?_⟩
      · refine ⟨.int .u8 (bytesOf s)[i], ?_, rfl⟩
        unfold seg
        simp only [tsz, Nat.mul_one]
        rw [List.drop_eq_getElem_cons (by simpa using hi)]
        simp
      · have := Src.string (P := P) (W := W) s
        have hl : s.size = (bytesOf s).length := by simp [bytesOf]
        rw [hl] at this
        exact this
    · exact h.elim
  · rename_i x hx1 hy
    exact ofAt_src hS (ev_sound hS hy) h0 h
  · exact h.elim
theorem Tb.elem_some (hT : T.OK P) {t e : TypeId} {ty : Ty} (h : T.elem t = some (e, ty)) : P.underlying t = some (.slice e) := by
  unfold Tb.elem at h
  split at h
  · rename_i e' hu
    obtain ⟨ty', _, h2⟩ := Option.map_eq_some_iff.1 h
    cases h2
    exact hT.und _ _ hu
  · cases h
theorem notInt_some (hT : T.OK P) {u : TypeId} (h : notInt T u = true) : (∃ q, P.underlying u = some (.slice q)) ∨ P.underlying u = some .string := by
  unfold notInt at h
  split at h
  · rename_i q hu; exact .inl ⟨q, hT.und _ _ hu⟩
  · rename_i hu; exact .inr (hT.und _ _ hu)
  · cases h
theorem info_of (hT : T.OK P) {e : TypeId} {b sz : Nat} (hb : T.bytes e = some b) (hs : T.size e = some sz) (hz : zOK T e sz = true) : ∃ i z, P.info? e = some i ∧ i.bytes = b ∧ i.size = sz ∧ i.zero = some z ∧ z.cells.size = sz := by
  have h1 := hT.bytes _ _ hb
  have h2 := hT.size _ _ hs
  unfold zOK at hz
  split at hz
  rotate_left
  · cases hz
  rename_i z hzz
  have hzl := Nat.eq_of_beq_eq_true hz
  have h3 := hT.zero _ _ hzz
  cases hi : P.info? e with
  | none => rw [hi] at h1; cases h1
  | some i =>
    rw [hi] at h1 h2 h3
    simp only [Option.map_some, Option.some.injEq, Option.bind_some] at h1 h2 h3
    exact ⟨i, z, rfl, h1, h2, h3, by simpa using hzl⟩
/-- A row in place: the block that was there. -/
theorem inplace_row (hS : Sim cx G S tm W) {fr id : Nat} (hf : lk S.H fr = none) {e : Nat} {t : Ty} {xs zs : List (Ty.D E.S t)} {cap d n : Nat} {cur : List Value} {ys : List (Ty.D E.S t)} {cs ds : List Value} (hb : S.h id = some (.row e t xs false)) (hsz : 0 < tsz E t)
    (hhd : 0 < capOf (G.hd id)) (hcap : 0 < cap) (hh : CellsAt W (G.loc id) cur.toArray e) (hmax : cap ≤ maxLen) (hcur : cap * tsz E t ≤ cur.length)
    (hr : RowC E W G.F d t zs cs) (hcs : cs = cur.take (n * tsz E t)) (hn : zs.length = n) (hys : RowC E W G.F d t ys ds) (hroom : n + ys.length ≤ cap) (hone : ∀ v ∈ ds, v.oneCell' = true) :
    ∃ W', (storeCells ⟨G.loc id, n * tsz E t, none⟩ ds).run P W = .ok () W' ∧ ∃ G', Sim cx G' { S with H := [(fr, .row e t (zs ++ ys) false), (id, .gone)] ++ S.H } tm W' ∧ Ext G S.k W G' (St.k { S with H := [(fr, Blk.row e t (zs ++ ys) false), (id, .gone)] ++ S.H }) W' ∧
      AVR (E := E) G' (St.k { S with H := [(fr, Blk.row e t (zs ++ ys) false), (id, .gone)] ++ S.H }) W' (.a (.own fr)) (.slice (some ⟨G.loc id, 0, none⟩) (n + ys.length) cap) := by
  have hdl : ds.length = ys.length * tsz E t := hys.1
  have hle : n * tsz E t + ds.length ≤ cur.length := by
    have : (n + ys.length) * tsz E t ≤ cap * tsz E t := Nat.mul_le_mul_right _ hroom
    rw [Nat.add_mul] at this
    omega
  have hrun := run_putC (P := P) (o := n * tsz E t) (vs := ds) hh hle hone
  have hrowO : ∀ k, Occ G id (.row e t xs false : Blk E) k ↔ k = G.loc id := fun k => ⟨fun h => h.1, fun h => ⟨h, hhd⟩⟩
  have hfi : fr ≠ id := fun e => by have := St.h_k hb; unfold St.k at this; rw [← e, hf] at this; cases this
  refine ⟨_, hrun, G.add fr (G.loc id) (.slice (some ⟨G.loc id, 0, none⟩) (n + ys.length) cap) (n + ys.length) (tsz E t), ?_⟩
  obtain ⟨h1, h2⟩ := hS.newRow (W' := W.setRow (G.loc id) (putAt cur (n * tsz E t) ds).toArray) hf (.row e t (zs ++ ys) false) [(id, .gone)] (G.loc id) (.slice (some ⟨G.loc id, 0, none⟩) (n + ys.length) cap) (n + ys.length) (tsz E t) rfl
    (fun i b' h => by
      rw [lk_cons] at h
      split at h
      · cases h; subst_vars; exact ⟨rfl, St.h_k hb⟩
      · cases h)
    (fun k hk => by
      by_cases hkl : k = G.loc id
      · exact .inr ⟨id, _, hb, (hrowO k).2 hkl, rfl, by simp [lk_cons]⟩
      · exact .inl (setRow_other W _ k _ hkl))
    (fun k ho => by
      have := ho.1
      simp only [Gh.add, updf_same] at this
      exact .inr ⟨id, _, hb, (hrowO k).2 this, rfl, by simp [lk_cons]⟩)
    (by simp) setRow_same (fun K' hK hE => by
      refine ⟨by simp [Gh.add, updf_same, hn], by simp [Gh.add, updf_same], hsz, .inr ⟨cap, (putAt cur (n * tsz E t) ds).toArray, d, ?_⟩⟩
      simp only [Gh.add, updf_same]
      refine ⟨by simp [hn], hcap, hh.put hle, by simp [hn]; exact hroom, hmax, by simp [putAt_length _ _ _ hle]; exact hcur, fun i hi => ?_⟩
      have hall := (hr.append hys).more (W' := W.setRow (G.loc id) (putAt cur (n * tsz E t) ds).toArray) (F' := G.F) (fun _ h => h) hE.W (Nat.le_refl d)
      have hput : putAt cur (n * tsz E t) ds = (cs ++ ds) ++ cur.drop (n * tsz E t + ds.length) := by unfold putAt; rw [hcs]
      have := hall.2 i hi
      show RoE E _ t _ (seg (putAt cur (n * tsz E t) ds) i (tsz E t))
      have e2 : seg (putAt cur (n * tsz E t) ds) i (tsz E t) = seg (cs ++ ds) i (tsz E t) := by
        rw [hput, seg_append_left]
        rw [hall.1]
        have : (i + 1) * tsz E t ≤ (zs ++ ys).length * tsz E t := Nat.mul_le_mul_right _ hi
        rw [Nat.add_mul] at this
        omega
      rw [e2]
      exact this)
  refine ⟨h1, h2, ?_, by simp [Gh.add, updf_same], _, _, _, rfl⟩
  unfold St.k; simp [lk_cons]
theorem RoA.one {F : Nat → Prop} {d : Nat} {t : Ty} {x : Ty.D E.S t} {v : Value} (h : RoA E W F d t x v) : v.oneCell' = true := by
  cases t with
  | slice e t =>
    cases d with
    | zero => exact h.elim
    | succ d => obtain ⟨A, c, hv, _⟩ := h; rw [hv]; rfl
  | rsl e t =>
    cases d with
    | zero => exact h.elim
    | succ d => obtain ⟨A, c, hv, _⟩ := h; rw [hv]; rfl
  | st n => cases d <;> exact h.elim
  | arr k n => cases d <;> exact h.elim
  | pbx b n => cases d <;> exact h.elim
  | _ => cases d <;> (rw [show v = _ from h]; rfl)
theorem RoL.ones {F : Nat → Prop} {d : Nat} : ∀ {ts : List Ty} {x : HT E.S ts} {vs : List Value}, RoL E (RoA E W F d) ts x vs → ∀ v ∈ vs, v.oneCell' = true
  | [], _, _, h, v, hv => by rw [RoL] at h; subst h; cases hv
  | _ :: _, _, _, ⟨w, r, hw, ha, hr⟩, v, hv => by
    subst hw
    rcases List.mem_cons.1 hv with rfl | hv
    · exact ha.one
    · exact hr.ones v hv
theorem RoE.ones {F : Nat → Prop} {d : Nat} {t : Ty} {x : Ty.D E.S t} {vs : List Value} (h : RoE E (RoA E W F d) t x vs) : ∀ v ∈ vs, v.oneCell' = true := by
  cases t with
  | st n => exact RoL.ones h
  | _ => obtain ⟨w, rfl, ha⟩ := h; intro v hv; rw [List.mem_singleton] at hv; subst hv; exact ha.one
theorem RowC.ones {F : Nat → Prop} {d : Nat} {t : Ty} {xs : List (Ty.D E.S t)} {cs : List Value} (h : RowC E W F d t xs cs) : ∀ v ∈ cs, v.oneCell' = true := by
  intro v hv
  obtain ⟨j, hj, rfl⟩ := List.getElem_of_mem hv
  have hj' : j < xs.length * tsz E t := by rw [← h.1]; exact hj
  have hpos : 0 < tsz E t := by
    rcases Nat.eq_zero_or_pos (tsz E t) with h0 | h0
    · rw [h0] at hj'; simp at hj'
    · exact h0
  have hi : j / tsz E t < xs.length := Nat.div_lt_of_lt_mul (by rw [Nat.mul_comm]; exact hj')
  refine (h.2 _ hi).ones _ ?_
  have hg : (seg cs (j / tsz E t) (tsz E t))[j % tsz E t]? = some cs[j] := by
    rw [seg_get, if_pos (Nat.mod_lt _ hpos), Nat.mul_comm, Nat.div_add_mod]
    exact List.getElem?_eq_getElem hj
  exact List.mem_of_getElem? hg
theorem append_sound (hT : T.OK P) {fr : Nat} (hf : lk S.H fr = none) (hS : Sim cx G S a.tmps W) {t u rty : TypeId} {x y : Operand} {l l' : List Nat} {r : Res E} (h : RM.Out S.h (aAppend T fr t u (evO (lk S.ρ) x) (evO (lk S.ρ) y)) l r l') :
    Ends P cx G S a W (Builtin.append_ #[t, u] rty #[a.eval x, a.eval y]) r := by
  unfold aAppend at h
  split at h
  rotate_left
  · exact h.elim
  rename_i e ty helem
  have hu := Tb.elem_some hT helem
  split at h
  rotate_left
  · exact h.elim
  rename_i b sz hby hsz
  have hb' := RM.Out_bif h; clear h; obtain ⟨hc, h⟩ := hb'
  simp only [Bool.and_eq_true] at hc
  obtain ⟨⟨⟨⟨hc1, hc2⟩, hc3⟩, hc4⟩, hc5⟩ := hc
  obtain rfl := Nat.eq_of_beq_eq_true hc1
  have hpos : 0 < tsz E ty := Nat.le_of_ble_eq_true hc2
  have hbpos : 0 < b := Nat.le_of_ble_eq_true hc3
  have hun := notInt_some hT hc4
  obtain ⟨i, z, hi, rfl, hisz, hz, hzs⟩ := info_of hT hby hsz hc5
  obtain ⟨ys, l1, hys, h⟩ := RM.Out_bind h
  obtain ⟨dy, ds, hrow, hsrc⟩ := elems_sound (P := P) hS hys hpos
  rw [← hisz] at hsrc
  -- where a new block is made
  have grows : ∀ (rest : Up E) (A : Option Addr) (n cap : Nat) (d : Nat) (zs : List (Ty.D E.S ty)) (cs : List Value), (∀ id b', lk rest id = some b' → b' = .gone ∧ S.k id) → zs.length = n → RowC E W G.F d ty zs cs → Src P W i.size (.slice A n cap) n cs → a.eval x = .slice A n cap → cap < n + ys.length → room (n + ys.length) i.bytes = true →
      Ends P cx G S a W (Builtin.append_ #[t, u] rty #[a.eval x, a.eval y]) (.a (.own fr), (fr, .row e ty (zs ++ ys) false) :: rest) := by
    intro rest A n cap d zs cs hrest hn hr hold hx hg hroom
    have hroom : (n + ys.length) * i.bytes ≤ 140737488355328 := by simpa [room] using hroom
    rw [hx]
    obtain ⟨cap', hle, hmax, hrun⟩ := append_grows t u rty e i z hu hun hi hz hsrc hold hg hroom hbpos
    have hr' := (hr.more (F' := G.F) (fun _ h => h) (fun _ _ => rfl) (Nat.le_max_left d dy)).append (hrow.more (F' := G.F) (fun _ h => h) (fun _ _ => rfl) (Nat.le_max_right d dy))
    have hlen : (zs ++ ys).length = n + ys.length := by simp [hn]
    obtain ⟨G', h1, h2, h3⟩ := fresh_row (W' := W.drew.alloc (.cells (cs ++ ds ++ (Builtin.zeroCells z.cells (cap' - (n + ys.length))).toList).toArray e)) hS hf rest hrest hpos hr' (by rw [hlen]; exact hle) hmax (by
      rw [List.length_append, hr'.1, zeroCells_length, hzs, hlen, ← Nat.add_mul]
      exact Nat.mul_le_mul_right _ (by omega)) (.inr rfl)
    rw [hlen] at h3
    exact ⟨_, _, _, hrun, h1, h2, h3⟩
  -- an own row, cut at n
  have own : ∀ (id : Nat) (xs : List (Ty.D E.S ty)) (n c : Nat) (A : Option Addr), S.h id = some (.row e ty xs false) → n ≤ xs.length → a.eval x = .slice A n c → n ≤ c →
      (0 < c → A = some ⟨G.loc id, 0, none⟩ ∧ c ≤ capOf (G.hd id)) → room (n + ys.length) i.bytes = true →
      Ends P cx G S a W (Builtin.append_ #[t, u] rty #[a.eval x, a.eval y]) (.a (.own fr), [(fr, .row e ty (xs.take n ++ ys) false), (id, .gone)]) := by
    intro id xs n c A hb hn hx hnc hA hroom
    have hrest : ∀ j b', lk ([(id, .gone)] : Up E) j = some b' → b' = .gone ∧ S.k j := by
      intro j b' h
      rw [lk_cons] at h
      split at h
      · cases h; subst_vars; exact ⟨rfl, St.h_k hb⟩
      · cases h
    have hB := hS.blks id _ hb
    obtain ⟨b1, b2, b3, hrowB⟩ := hB
    rcases Nat.eq_zero_or_pos c with h0 | h0
    · -- no room at all
      subst h0
      have hn0 : n = 0 := by omega
      subst hn0
      rcases Nat.eq_zero_or_pos ys.length with hy | hy
      · have hyn : ys = [] := List.eq_nil_of_length_eq_zero hy
        subst hyn
        have hds : ds = [] := List.eq_nil_of_length_eq_zero (by rw [hrow.1]; simp)
        subst hds
        have hrun := append_room t u rty e i hu hun hi hsrc (base := A) (sLen := 0) (sCap := 0) (W1 := W) (by simp) (fun a _ => by simp [storeCells]) (fun _ => rfl)
        obtain ⟨h1, h2⟩ := hS.newRow (W' := W) hf (.row e ty ([] : List (Ty.D E.S ty)) false) [(id, .gone)] 0 (.slice A 0 0) 0 (tsz E ty) rfl hrest (fun k _ => .inl rfl) (fun k ho => absurd ho.2 (by simp [Gh.add, updf_same, capOf])) (Nat.le_refl _) ⟨rfl, rfl, rfl⟩
          (fun K' hK hE => ⟨by simp [Gh.add, updf_same], by simp [Gh.add, updf_same], hpos, .inl ⟨A, by simp [Gh.add, updf_same], rfl⟩⟩)
        rw [hx]
        refine ⟨_, _, _, hrun, by simpa using h1, by simpa using h2, ?_, by simp [Gh.add, updf_same], _, _, _, rfl⟩
        unfold St.k; simp [lk_cons]
      · have := grows [(id, .gone)] A 0 0 0 (xs.take 0) [] hrest (by simp) ⟨by simp, fun i hi => absurd hi (by simp)⟩ (Src.slice (by simp) (fun h => absurd h (by simp)) (fun _ => rfl)) hx (by omega) hroom
        exact this
    · obtain ⟨hA, hcc⟩ := hA h0
      rcases hrowB with ⟨A', hA', hnil⟩ | ⟨cap, cur, d, hhd, hcap, hh, hlen, hmax, hcur, hel⟩
      · rw [hA'] at hcc; simp [capOf] at hcc; omega
      · have hcc : c ≤ cap := by rw [hhd] at hcc; exact hcc
        have hr0 := row_cells (G := G) (W := W) (id := id) (e := e) hcur hlen hel
        have hr := hr0.take n hn
        have hle : n * tsz E ty ≤ xs.length * tsz E ty := Nat.mul_le_mul_right _ hn
        have htk : (cur.toList.take (xs.length * tsz E ty)).take (n * tsz E ty) = cur.toList.take (n * tsz E ty) := by rw [List.take_take, Nat.min_eq_left hle]
        rw [htk] at hr
        have hheap : CellsAt W (G.loc id) cur.toList.toArray e := by simpa using hh
        subst hA
        by_cases hfit : n + ys.length ≤ c
        · have hdm := (hr.more (F' := G.F) (fun _ h => h) (fun _ _ => rfl) (Nat.le_max_left d dy))
          have hym := (hrow.more (F' := G.F) (fun _ h => h) (fun _ _ => rfl) (Nat.le_max_right d dy))
          obtain ⟨W', hst, G', h1, h2, h3⟩ := inplace_row (P := P) (cap := c) hS hf hb hpos (by rw [hhd]; exact hcap) h0 hheap (by omega) (by
            have : c * tsz E ty ≤ cap * tsz E ty := Nat.mul_le_mul_right _ hcc
            simp; omega) hdm rfl (by simp; omega) hym hfit hrow.ones
          have hrun := append_room t u rty e i hu hun hi hsrc (base := some ⟨G.loc id, 0, none⟩) (sLen := n) (sCap := c) (W1 := W') hfit (fun ad had => by cases had; rw [hisz, add_lit, Nat.zero_add]; exact hst) (fun h => by cases h)
          rw [hx]
          exact ⟨_, _, _, hrun, h1, h2, h3⟩
        · have hcl : n * tsz E ty ≤ cur.size := by
            have : n * tsz E ty ≤ cap * tsz E ty := Nat.mul_le_mul_right _ (by omega)
            omega
          exact grows [(id, .gone)] _ n c d (xs.take n) _ hrest (by simp; omega) hr (by
            rw [hisz]
            have htl : (cur.toList.take (n * tsz E ty)).length = n * tsz E ty := by simp; omega
            refine Src.slice htl (fun _ => ⟨_, rfl, fun j hj => ?_⟩) (fun h => ?_)
            · rw [hh.cell _ _ rfl]
              simp at hj ⊢
            · rw [htl] at h
              rcases Nat.mul_eq_zero.1 h with h | h
              · exact h
              · omega) hx (by omega) hroom
  split at h
  · rename_i id hx
    have hx := ev_sound hS hx
    obtain ⟨b, hb, h⟩ := h
    dsimp only at h
    split at h
    · rename_i e' ty' xs
      have hb2 := RM.Out_bind h; clear h; obtain ⟨xs', l2, hcast, h⟩ := hb2
      obtain ⟨rfl, rfl, rfl⟩ := castR_sound hcast
      obtain ⟨hroom, h⟩ := h
      obtain rfl := h.1
      obtain ⟨b1, b2, b3, hrowB⟩ := hS.blks id _ hb
      have hxv := hx.2.1
      rcases hrowB with ⟨A', hA', hnil⟩ | ⟨cap, cur, d, hhd, hcap, hh, hlen, hmax, hcur, hel⟩
      · subst hnil
        have := own id [] 0 0 A' hb (Nat.le_refl _) (hxv.trans hA') (Nat.le_refl _) (fun h => absurd h (by omega)) hroom
        simpa using this
      · have := own id xs' xs'.length cap _ hb (Nat.le_refl _) (hxv.trans hhd) hlen (fun _ => ⟨rfl, by rw [hhd]; exact Nat.le_refl _⟩) hroom
        simpa using this
    · exact h.elim
  · rename_i id len hx
    have hx := ev_sound hS hx
    obtain ⟨b, hb, h⟩ := h
    dsimp only at h
    split at h
    · rename_i e' ty' xs
      have hb2 := RM.Out_bind h; clear h; obtain ⟨xs', l2, hcast, h⟩ := hb2
      obtain ⟨rfl, rfl, rfl⟩ := castR_sound hcast
      obtain ⟨hroom, h⟩ := h
      obtain rfl := h.1
      obtain ⟨hk, hol, A, c, hv, hlc, hA⟩ := hx
      have b1 := (hS.blks id _ hb).1
      refine own id xs' len c A hb (by omega) hv hlc (fun h0 => ?_) hroom
      have := hA h0
      simpa using this
    · exact h.elim
  · rename_i hx
    have hx := ev_sound hS hx
    obtain ⟨hroom, h⟩ := h
    obtain rfl := h.1
    obtain ⟨A, hv⟩ := hx
    rcases Nat.eq_zero_or_pos ys.length with hy | hy
    · have hyn : ys = [] := List.eq_nil_of_length_eq_zero hy
      subst hyn
      have hds : ds = [] := List.eq_nil_of_length_eq_zero (by rw [hrow.1]; simp)
      subst hds
      have hrun := append_room t u rty e i hu hun hi hsrc (base := A) (sLen := 0) (sCap := 0) (W1 := W) (by simp) (fun a _ => by simp [storeCells]) (fun _ => rfl)
      obtain ⟨h1, h2⟩ := hS.newRow (W' := W) hf (.row e ty ([] : List (Ty.D E.S ty)) false) [] 0 (.slice A 0 0) 0 (tsz E ty) rfl (fun j b' h => by cases h) (fun k _ => .inl rfl) (fun k ho => absurd ho.2 (by simp [Gh.add, updf_same, capOf])) (Nat.le_refl _) ⟨rfl, rfl, rfl⟩
        (fun K' hK hE => ⟨by simp [Gh.add, updf_same], by simp [Gh.add, updf_same], hpos, .inl ⟨A, by simp [Gh.add, updf_same], rfl⟩⟩)
      rw [hv]
      refine ⟨_, _, _, hrun, h1, h2, ?_, by simp [Gh.add, updf_same], _, _, _, rfl⟩
      unfold St.k; simp [lk_cons]
    · have := grows [] A 0 0 0 [] [] (fun j b' h => by cases h) rfl ⟨by simp, fun i hi => absurd hi (by simp)⟩ (Src.slice (by simp) (fun h => absurd h (by simp)) (fun _ => rfl)) hv (by omega) (by simpa using hroom)
      simpa using this
  · exact h.elim
end Mir
