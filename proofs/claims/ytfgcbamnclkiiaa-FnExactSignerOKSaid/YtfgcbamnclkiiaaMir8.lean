/- The mirror machine: new blocks, stores, appends. -/
import Derived.Test.YtfgcbamnclkiiaaMir7
namespace Mir
set_option linter.unusedVariables false
set_option linter.unusedSimpArgs false
open Go
variable {E : Env} {P : Program} {T : Tb} {cx : Cx} {G G' : Gh} {S : St E} {tm : Array Value} {a : Act} {W W' : World}

/-! ### Frozen rows -/
theorem h_append {U : Up E} {id : Nat} : St.h { S with H := U ++ S.H } id = match lk U id with | some .gone => none | some b => some b | none => S.h id := by
  unfold St.h
  simp only [lk_append]
  cases lk U id with
  | none => rfl
  | some b => cases b <;> rfl
theorem frz_keys : ∀ {xs : List (At E)} {l l' : List Nat} {u : Up E}, RM.Out S.h (frz xs) l u l' → ∀ id b, lk u id = some b → ∃ e t ys f, S.h id = some (.row e t ys f) ∧ b = .row e t ys true
  | [], _, _, _, h, id, b, hb => by rw [h.1] at hb; cases hb
  | .own i :: xs, l, l', u, h, id, b, hb => by
    obtain ⟨c, hc, h⟩ := h
    dsimp only at h
    split at h
    · obtain ⟨u', l1, h1, h⟩ := RM.Out_bind h
      obtain rfl := h.1
      rw [lk_cons] at hb
      split at hb
      · cases hb; subst_vars; exact ⟨_, _, _, _, hc, rfl⟩
      · exact frz_keys h1 id b hb
    · exact h.elim
  | .sub i _ _ :: xs, l, l', u, h, id, b, hb => by
    obtain ⟨c, hc, h⟩ := h
    dsimp only at h
    split at h
    · obtain ⟨u', l1, h1, h⟩ := RM.Out_bind h
      obtain rfl := h.1
      rw [lk_cons] at hb
      split at hb
      · cases hb; subst_vars; exact ⟨_, _, _, _, hc, rfl⟩
      · exact frz_keys h1 id b hb
    · exact h.elim
  | .int _ _ :: xs, _, _, _, h, id, b, hb => frz_keys (xs := xs) h id b hb
  | .bool _ :: xs, _, _, _, h, id, b, hb => frz_keys (xs := xs) h id b hb
  | .str _ :: xs, _, _, _, h, id, b, hb => frz_keys (xs := xs) h id b hb
  | .ro _ _ _ :: xs, _, _, _, h, id, b, hb => frz_keys (xs := xs) h id b hb
  | .ptr _ _ :: xs, _, _, _, h, id, b, hb => frz_keys (xs := xs) h id b hb
  | .eptr _ _ _ :: xs, _, _, _, h, id, b, hb => frz_keys (xs := xs) h id b hb
  | .nils :: xs, _, _, _, h, id, b, hb => frz_keys (xs := xs) h id b hb
  | .nilp :: xs, _, _, _, h, id, b, hb => frz_keys (xs := xs) h id b hb
  | .dead :: xs, _, _, _, h, id, b, hb => frz_keys (xs := xs) h id b hb
  | .undef :: xs, _, _, _, h, id, b, hb => frz_keys (xs := xs) h id b hb
/-- Rows that are in U frozen. -/
def Frozen (G' : Gh) (U : Up E) (G : Gh) (S : St E) : Prop := ∀ id e t xs, lk U id = some (.row e t xs true) → ∀ b k, S.h id = some b → Occ G id b k → G'.F k
theorem ext_F {F' : Nat → Prop} {U : Up E} (hF : ∀ k, G.F k → F' k) : Ext G S.k W { G with F := F' } (St.k { S with H := U ++ S.H }) W :=
  ⟨fun _ _ => rfl, fun _ _ => rfl, fun _ _ => rfl, fun _ _ => rfl, fun i hi => k_append hi, hF, fun _ _ => rfl⟩
/-- What freezing has brought. -/
def Frz (cx : Cx) (G : Gh) (S : St E) (tm : Array Value) (W : World) (u : Up E) : Prop :=
  ∃ F' : Nat → Prop, Sim cx { G with F := F' } { S with H := u ++ S.H } tm W ∧ (∀ k, G.F k → F' k) ∧ (∀ id b, lk u id = some b → ∀ k, Occ G id b k → F' k)
theorem frz1 (hS : Sim cx G S tm W) {u : Up E} (hu : ∀ id b, lk u id = some b → ∃ e t ys f, S.h id = some (.row e t ys f) ∧ b = .row e t ys true) (h1 : Frz cx G S tm W u)
    {id : Nat} {e : Nat} {t : Ty} {ys : List (Ty.D E.S t)} {f : Bool} (hb : S.h id = some (.row e t ys f)) : Frz cx G S tm W ((id, .row e t ys true) :: u) := by
  obtain ⟨F1, hS1, hF1, hf1⟩ := h1
  have hb1 : ∃ f', St.h { S with H := u ++ S.H } id = some (.row e t ys f') := by
    rw [h_append]
    cases hl : lk u id with
    | none => exact ⟨f, hb⟩
    | some b =>
      obtain ⟨e', t', ys', f', h2, rfl⟩ := hu id b hl
      rw [hb] at h2
      cases h2
      exact ⟨true, rfl⟩
  obtain ⟨f', hb1⟩ := hb1
  obtain ⟨F2, hS2, hF2, ho2⟩ := hS1.freeze hb1
  refine ⟨F2, hS2, fun k hk => hF2 k (hF1 k hk), fun i b hl k hk => ?_⟩
  rw [lk_cons] at hl
  split at hl
  · cases hl; subst_vars; exact ho2 k hk
  · exact hF2 k (hf1 i b hl k hk)
theorem lk_mono {α : Type} (p : Nat × α) (U : List (Nat × α)) (j : Nat) (hj : (lk U j).isSome = true) : (lk (p :: U) j).isSome = true := by
  obtain ⟨i, b⟩ := p
  rw [lk_cons]
  split <;> simp [hj]
theorem frz_sound (hS : Sim cx G S tm W) : ∀ {xs : List (At E)} {l l' : List Nat} {u : Up E}, RM.Out S.h (frz xs) l u l' → Frz cx G S tm W u ∧ ∀ x ∈ xs, match x with | .own id => (lk u id).isSome = true | .sub id _ _ => (lk u id).isSome = true | _ => True
  | [], _, _, _, h => by rw [h.1]; exact ⟨⟨G.F, hS, fun _ h => h, fun id b h => by cases h⟩, fun x hx => by cases hx⟩
  | .own i :: xs, l, l', u, h => by
    obtain ⟨c, hc, h⟩ := h
    dsimp only at h
    split at h
    · obtain ⟨u', l1, h1, h⟩ := RM.Out_bind h
      obtain rfl := h.1
      obtain ⟨h2, h3⟩ := frz_sound hS h1
      refine ⟨frz1 hS (frz_keys h1) h2 hc, fun x hx => ?_⟩
      rcases List.mem_cons.1 hx with rfl | hx
      · simp [lk_cons]
      · have := h3 x hx
        cases x <;> first | trivial | exact lk_mono _ _ _ this
    · exact h.elim
  | .sub i _ _ :: xs, l, l', u, h => by
    obtain ⟨c, hc, h⟩ := h
    dsimp only at h
    split at h
    · obtain ⟨u', l1, h1, h⟩ := RM.Out_bind h
      obtain rfl := h.1
      obtain ⟨h2, h3⟩ := frz_sound hS h1
      refine ⟨frz1 hS (frz_keys h1) h2 hc, fun x hx => ?_⟩
      rcases List.mem_cons.1 hx with rfl | hx
      · simp [lk_cons]
      · have := h3 x hx
        cases x <;> first | trivial | exact lk_mono _ _ _ this
    · exact h.elim
  | .int _ _ :: xs, _, _, _, h => let ⟨h1, h2⟩ := frz_sound (xs := xs) hS h; ⟨h1, fun x hx => by rcases List.mem_cons.1 hx with rfl | hx; trivial; exact h2 x hx⟩
  | .bool _ :: xs, _, _, _, h => let ⟨h1, h2⟩ := frz_sound (xs := xs) hS h; ⟨h1, fun x hx => by rcases List.mem_cons.1 hx with rfl | hx; trivial; exact h2 x hx⟩
  | .str _ :: xs, _, _, _, h => let ⟨h1, h2⟩ := frz_sound (xs := xs) hS h; ⟨h1, fun x hx => by rcases List.mem_cons.1 hx with rfl | hx; trivial; exact h2 x hx⟩
  | .ro _ _ _ :: xs, _, _, _, h => let ⟨h1, h2⟩ := frz_sound (xs := xs) hS h; ⟨h1, fun x hx => by rcases List.mem_cons.1 hx with rfl | hx; trivial; exact h2 x hx⟩
  | .ptr _ _ :: xs, _, _, _, h => let ⟨h1, h2⟩ := frz_sound (xs := xs) hS h; ⟨h1, fun x hx => by rcases List.mem_cons.1 hx with rfl | hx; trivial; exact h2 x hx⟩
  | .eptr _ _ _ :: xs, _, _, _, h => let ⟨h1, h2⟩ := frz_sound (xs := xs) hS h; ⟨h1, fun x hx => by rcases List.mem_cons.1 hx with rfl | hx; trivial; exact h2 x hx⟩
  | .nils :: xs, _, _, _, h => let ⟨h1, h2⟩ := frz_sound (xs := xs) hS h; ⟨h1, fun x hx => by rcases List.mem_cons.1 hx with rfl | hx; trivial; exact h2 x hx⟩
  | .nilp :: xs, _, _, _, h => let ⟨h1, h2⟩ := frz_sound (xs := xs) hS h; ⟨h1, fun x hx => by rcases List.mem_cons.1 hx with rfl | hx; trivial; exact h2 x hx⟩
  | .dead :: xs, _, _, _, h => let ⟨h1, h2⟩ := frz_sound (xs := xs) hS h; ⟨h1, fun x hx => by rcases List.mem_cons.1 hx with rfl | hx; trivial; exact h2 x hx⟩
  | .undef :: xs, _, _, _, h => let ⟨h1, h2⟩ := frz_sound (xs := xs) hS h; ⟨h1, fun x hx => by rcases List.mem_cons.1 hx with rfl | hx; trivial; exact h2 x hx⟩
/-- Cells whose rows are frozen lie in the new F. -/
theorem frz_inF {xs : List (At E)} {u : Up E} {F' : Nat → Prop} (hu : ∀ id b, lk u id = some b → ∃ e t ys f, S.h id = some (.row e t ys f) ∧ b = .row e t ys true)
    (hf : ∀ id b, lk u id = some b → ∀ k, Occ G id b k → F' k) (hx : ∀ x ∈ xs, match x with | .own id => (lk u id).isSome = true | .sub id _ _ => (lk u id).isSome = true | _ => True) : ∀ x ∈ xs, InF G S F' x := by
  intro x hm
  have := hx x hm
  have key : ∀ id, (lk u id).isSome = true → ∀ b k, S.h id = some b → Occ G id b k → F' k := by
    intro id hs b k hb ho
    obtain ⟨b', hl⟩ := Option.isSome_iff_exists.1 hs
    obtain ⟨e, t, ys, f, h2, rfl⟩ := hu id b' hl
    rw [hb] at h2
    cases h2
    exact hf id _ hl k ho
  cases x <;> first | trivial | exact key _ this

/-! ### Boxes -/
theorem box_sound {fr : Nat} (hf : lk S.H fr = none) (hS : Sim cx G S a.tmps W) {t : TypeId} {v : Cv E} {w : Value} (hv : CvR G S.k W v w) {l l' : List Nat} {r : Res E} (h : RM.Out S.h (aBox fr t (some v)) l r l') {m : Sem Value}
    (hm : m.run P W = .ok (.pointer (some ⟨W.heap.size, 0, none⟩)) (W.alloc (.cells w.cells t))) : Ends P cx G S a W m r := by
  cases v with
  | «at» x =>
    have hb' := RM.Out_bif h; clear h; obtain ⟨hok, h⟩ := hb'
    obtain rfl := h.1
    rw [AtR.cells hv hok] at hm
    obtain ⟨h1, h2⟩ := hS.alloc hf (.box t [x]) #[w] t undef 0 0 rfl (fun K' hK hE => ⟨[w], by simp only [Gh.add, updf_same]; exact heap_alloc_new W _, w, [], rfl, AtR.ext hE hv, rfl⟩)
    exact ⟨_, _, _, hm, h1, h2, by unfold St.k; simp [lk_cons], by simp [Gh.add, updf_same]⟩
  | agg xs =>
    obtain rfl := h.1
    obtain ⟨vs, rfl, hr⟩ := hv
    obtain ⟨h1, h2⟩ := hS.alloc hf (.box t xs) vs.toArray t undef 0 0 rfl (fun K' hK hE => ⟨vs, by simp only [Gh.add, updf_same]; exact heap_alloc_new W _, hr.ext hE⟩)
    exact ⟨_, _, _, hm, h1, h2, by unfold St.k; simp [lk_cons], by simp [Gh.add, updf_same]⟩
  | arr k n xs =>
    obtain rfl := h.1
    obtain ⟨hl, rfl⟩ := hv
    obtain ⟨h1, h2⟩ := hS.alloc hf (.arr t k n xs) (xs.map (Value.int k)).toArray t undef n 1 rfl (fun K' hK hE => ⟨hl, by simp [Gh.add, updf_same], by simp [Gh.add, updf_same], by simp only [Gh.add, updf_same]; exact heap_alloc_new W _⟩)
    exact ⟨_, _, _, hm, h1, h2, by unfold St.k; simp [lk_cons], by simp [Gh.add, updf_same]⟩
theorem run_newVar (t : TypeId) (w : Value) (W : World) : (newVar t w).run P W = .ok ⟨W.heap.size, 0, none⟩ (W.alloc (.cells w.cells t)) := by
  rfl
theorem asCv_some {x : Option (AV E)} {v : Cv E} (h : asCv x = some v) : x = some (.c v) := by
  unfold asCv at h
  split at h
  · cases h; rfl
  · cases h
theorem boxop_sound {fr : Nat} (hf : lk S.H fr = none) (hS : Sim cx G S a.tmps W) {t : TypeId} {x : Operand} {l l' : List Nat} {r : Res E} (h : RM.Out S.h (aBox fr t (asCv (evO (lk S.ρ) x))) l r l') : Ends P cx G S a W (Instr.box t (a.eval x)) r := by
  cases hv : asCv (evO (lk S.ρ) x) with
  | none => rw [hv] at h; exact h.elim
  | some v =>
    rw [hv] at h
    exact box_sound hf hS (ev_sound hS (asCv_some hv)) h (by simp [Instr.box, run_newVar])
/-- A type's zero value. -/
theorem zero_sound (hT : T.OK P) {t : TypeId} {v : Cv E} (h : T.zeroCv E t = some v) {K : Nat → Prop} : ∃ w, (∀ W : World, (zeroValue t).run P W = .ok w W) ∧ (∀ G W, CvR G K W v w) ∧ ∃ i, P.info? t = some i ∧ i.zero = some w := by
  unfold Tb.zeroCv at h
  split at h
  · split at h
    · rename_i k cs _ hz
      have hz := hT.zero _ _ hz
      cases hc : (cs.toList.all (isZ k) && Nat.beq cs.toList.length _) with
      | false => rw [hc] at h; cases h
      | true =>
        rw [hc] at h
        cases h
        simp only [Bool.and_eq_true] at hc
        have hl := Nat.eq_of_beq_eq_true hc.2
        cases hi : P.info? t with
        | none => rw [hi] at hz; cases hz
        | some i =>
          rw [hi] at hz
          simp only [Option.bind_some] at hz
          have hall : ∀ l : List Value, l.all (isZ k) = true → l = (List.replicate l.length (0 : Int)).map (Value.int k) := by
            intro l
            induction l with
            | nil => intro _; rfl
            | cons x l ih =>
              intro hx
              simp only [List.all_cons, Bool.and_eq_true] at hx
              have h1 : x = .int k 0 := by
                have := hx.1
                cases x <;> simp [isZ] at this
                obtain ⟨h1, rfl⟩ := this
                rw [ikEq_eq h1]
              rw [List.length_cons, List.replicate_succ, List.map_cons, ← ih hx.2, h1]
          refine ⟨.agg cs, fun W => by simp [zeroValue, typeInfo, hi, hz], fun G W => ⟨by simp, ?_⟩, i, rfl, hz⟩
          rw [← hl, ← hall _ hc.1]
    · cases h
  · split at h
    · rename_i z hz
      have hz := hT.zero _ _ hz
      cases hi : P.info? t with
      | none => rw [hi] at hz; cases hz
      | some i =>
        rw [hi] at hz
        simp only [Option.bind_some] at hz
        exact ⟨z, fun W => by simp [zeroValue, typeInfo, hi, hz], fun G W => cvOfVal_sound h, i, rfl, hz⟩
    · cases h
theorem alloc_sound (hT : T.OK P) {fr : Nat} (hf : lk S.H fr = none) (hS : Sim cx G S a.tmps W) {t : TypeId} {l l' : List Nat} {r : Res E} (h : RM.Out S.h (aBox fr t (T.zeroCv E t)) l r l') : Ends P cx G S a W (Instr.alloc t true (.tuple #[])) r := by
  cases hv : T.zeroCv E t with
  | none => rw [hv] at h; exact h.elim
  | some v =>
    rw [hv] at h
    obtain ⟨w, hw, hr, _⟩ := zero_sound hT hv (K := S.k)
    exact box_sound hf hS (hr G W) h (by simp [Instr.alloc, run_newVar, hw])

end Mir
