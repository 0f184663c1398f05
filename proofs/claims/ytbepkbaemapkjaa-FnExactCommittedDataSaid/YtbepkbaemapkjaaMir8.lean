/- The mirror machine: new blocks, stores, appends. -/
import Derived.Test.YtbepkbaemapkjaaMir7
namespace Mir
set_option linter.unusedVariables false
set_option linter.unusedSimpArgs false
open Go
variable {E : Env} {P : Program} {T : Tb} {cx : Cx} {G G' : Gh} {S : St E} {tm : Array Value} {a : Act} {W W' : World}

/-! ### Frozen rows -/
theorem h_append {U : Up E} {id : Nat} : St.h { S with H := U ++ S.H } id = match lk U id with | some .gone => none | some b => some b | none => S.h id := by
  unfold St.h
  simp only [lk_append]
  cases lk U id with
  | none => rfl
  | some b => cases b <;> rfl
theorem lk_mem {α : Type} : ∀ {U : List (Nat × α)} {i : Nat} {b : α}, lk U i = some b → (i, b) ∈ U
  | (j, c) :: U, i, b, h => by
    rw [lk_cons] at h
    split at h
    · cases h; subst_vars; simp
    · exact List.mem_cons_of_mem _ (lk_mem h)
theorem mem_lk {α : Type} : ∀ {U : List (Nat × α)} {i : Nat} {b : α}, (i, b) ∈ U → (lk U i).isSome = true
  | (j, c) :: U, i, b, h => by
    rw [lk_cons]
    split
    · rfl
    · rcases List.mem_cons.1 h with h | h
      · cases h; simp_all
      · exact mem_lk h
/-- A row that is there, frozen. -/
def FrzB (S : St E) (id : Nat) (b : Blk E) : Prop := ∃ e t ys, b = .row e t ys true ∧ ((∃ f, S.h id = some (.row e t ys f)) ∨ ∃ hid, S.h id = some (.drow e t ys hid))
def FrzL (S : St E) (u : Up E) : Prop := ∀ p ∈ u, FrzB S p.1 p.2
theorem FrzL.keys {u : Up E} (h : FrzL S u) : ∀ id b, lk u id = some b → FrzB S id b := fun id b hl => h _ (lk_mem hl)
theorem FrzL.app {u v : Up E} (h : FrzL S u) (k : FrzL S v) : FrzL S (u ++ v) := fun p hp => by
  rcases List.mem_append.1 hp with hp | hp
  · exact h p hp
  · exact k p hp
theorem FrzL.nil : FrzL S [] := fun p hp => by cases hp
/-- The row that a cell leads to is among those that are frozen. -/
def Among (u : Up E) : At E → Prop
  | .own id => (lk u id).isSome = true
  | .sub id _ _ => (lk u id).isSome = true
  | .inn id _ _ _ => (lk u id).isSome = true
  | _ => True
theorem Among.app {u v : Up E} {x : At E} (h : Among u x ∨ Among v x) : Among (u ++ v) x := by
  have key : ∀ id, (lk u id).isSome = true ∨ (lk v id).isSome = true → (lk (u ++ v) id).isSome = true := by
    intro id h
    rw [lk_append]
    cases hl : lk u id with
    | some b => rfl
    | none => rw [hl] at h; exact h.resolve_left (by simp)
  cases x <;> first | trivial | exact key _ h
theorem ext_F {F' : Nat → Prop} {U : Up E} (hF : ∀ k, G.F k → F' k) : Ext G S.k W { G with F := F' } (St.k { S with H := U ++ S.H }) W :=
  ⟨fun _ _ => rfl, fun _ _ => rfl, fun _ _ => rfl, fun _ _ => rfl, fun _ _ => rfl, fun _ _ => rfl, fun i hi => k_append hi, hF, fun _ _ => rfl⟩
/-- What freezing has brought. -/
def Frz (cx : Cx) (G : Gh) (S : St E) (tm : Array Value) (W : World) (u : Up E) : Prop :=
  ∃ F' : Nat → Prop, Sim cx { G with F := F' } { S with H := u ++ S.H } tm W ∧ (∀ k, G.F k → F' k) ∧ (∀ id b, (lk u id).isSome = true → S.h id = some b → ∀ k, Occ G id b k → F' k)
theorem lk_mono {α : Type} (p : Nat × α) (U : List (Nat × α)) (j : Nat) (hj : (lk U j).isSome = true) : (lk (p :: U) j).isSome = true := by
  obtain ⟨i, b⟩ := p
  rw [lk_cons]
  split <;> simp [hj]
theorem frz_all (hS : Sim cx G S tm W) : ∀ {u : Up E}, FrzL S u → Frz cx G S tm W u
  | [], _ => ⟨G.F, hS, fun _ h => h, fun id b h => by cases h⟩
  | (id, b) :: u, h => by
    have hu : FrzL S u := fun p hp => h p (List.mem_cons_of_mem _ hp)
    obtain ⟨F1, hS1, hF1, hf1⟩ := frz_all hS hu
    obtain ⟨e, t, ys, hb, hb0⟩ := h (id, b) (List.mem_cons_self ..)
    obtain rfl : b = .row e t ys true := hb
    have hocc : ∀ k b0, S.h id = some b0 → Occ G id b0 k → (lk u id = none → ∃ b1, St.h { S with H := u ++ S.H } id = some b1 ∧ b1 = b0) := fun k b0 h0 _ hn => ⟨b0, by rw [h_append, hn]; exact h0, rfl⟩
    have step : ∃ F2 : Nat → Prop, Sim cx { G with F := F2 } { S with H := [(id, .row e t ys true)] ++ (u ++ S.H) } tm W ∧ (∀ k, F1 k → F2 k) ∧ (∀ b0, S.h id = some b0 → ∀ k, Occ G id b0 k → F2 k) := by
      cases hl : lk u id with
      | some b1 =>
        obtain ⟨e1, t1, ys1, rfl, hb1⟩ := hu.keys id b1 hl
        have he : St.h { S with H := u ++ S.H } id = some (.row e1 t1 ys1 true) := by rw [h_append, hl]
        have hsame : (Blk.row e1 t1 ys1 true : Blk E) = .row e t ys true := by
          rcases hb0 with ⟨f, h0⟩ | ⟨hid, h0⟩ <;> rcases hb1 with ⟨f1, h1⟩ | ⟨hid1, h1⟩ <;> (have h2 := h0.symm.trans h1; cases h2 <;> rfl)
        rw [hsame] at he
        obtain ⟨F2, h1, h2, h3⟩ := hS1.freeze he
        exact ⟨F2, h1, h2, fun b0 h0 k hk => h2 k (hf1 id b0 (by rw [hl]; rfl) h0 k hk)⟩
      | none =>
        rcases hb0 with ⟨f, h0⟩ | ⟨hid, h0⟩
        · obtain ⟨F2, h1, h2, h3⟩ := hS1.freeze (id := id) (e := e) (t := t) (xs := ys) (f := f) (by rw [h_append, hl]; exact h0)
          exact ⟨F2, h1, h2, fun b0 h0' k hk => by
            rw [show S.h id = _ from h0] at h0'; cases h0'
            exact h3 k hk⟩
        · obtain ⟨F2, h1, h2, h3⟩ := hS1.freezeD (id := id) (e := e) (t := t) (xs := ys) (hid := hid) (by rw [h_append, hl]; exact h0)
          exact ⟨F2, h1, h2, fun b0 h0' k hk => by
            rw [show S.h id = _ from h0] at h0'; cases h0'
            exact h3 k hk⟩
    obtain ⟨F2, h1, h2, h3⟩ := step
    refine ⟨F2, h1, fun k hk => h2 k (hF1 k hk), fun i b0 hl hb k hk => ?_⟩
    rw [lk_cons] at hl
    split at hl
    · subst_vars; exact h3 b0 hb k hk
    · exact h2 k (hf1 i b0 hl hb k hk)
theorem frzAt_list {x : At E} {l l' : List Nat} {u : Up E} (h : RM.Out S.h (frzAt x) l u l') : FrzL S u ∧ Among u x := by
  have one : ∀ (id : Nat) (b : Blk E), FrzB S id b → FrzL S [(id, b)] ∧ (lk [(id, b)] id).isSome = true := fun id b hb =>
    ⟨fun p hp => by rw [List.mem_singleton] at hp; subst hp; exact hb, by simp [lk_cons]⟩
  unfold frzAt at h
  split at h
  · obtain ⟨b, hb, h⟩ := h
    dsimp only at h
    split at h
    · obtain rfl := h.1; exact one _ _ ⟨_, _, _, rfl, .inl ⟨_, hb⟩⟩
    · obtain rfl := h.1; exact one _ _ ⟨_, _, _, rfl, .inr ⟨_, hb⟩⟩
    · exact h.elim
  · obtain ⟨b, hb, h⟩ := h
    dsimp only at h
    split at h
    · obtain rfl := h.1; exact one _ _ ⟨_, _, _, rfl, .inl ⟨_, hb⟩⟩
    · exact h.elim
  · obtain ⟨b, hb, h⟩ := h
    dsimp only at h
    split at h
    · obtain rfl := h.1; exact one _ _ ⟨_, _, _, rfl, .inr ⟨_, hb⟩⟩
    · exact h.elim
  · rename_i h1 h2 h3
    obtain rfl := h.1
    refine ⟨FrzL.nil, ?_⟩
    cases x <;> first | trivial | exact absurd rfl (h1 _) | exact absurd rfl (h2 _ _ _) | exact absurd rfl (h3 _ _ _ _)
theorem frz_list : ∀ {xs : List (At E)} {l l' : List Nat} {u : Up E}, RM.Out S.h (frz xs) l u l' → FrzL S u ∧ ∀ x ∈ xs, Among u x
  | [], _, _, _, h => by obtain rfl := h.1; exact ⟨FrzL.nil, fun x hx => by cases hx⟩
  | y :: xs, l, l', u, h => by
    obtain ⟨u1, l1, h1, h⟩ := RM.Out_bind h
    obtain ⟨u2, l2, h2, h⟩ := RM.Out_bind h
    obtain rfl := h.1
    obtain ⟨a1, a2⟩ := frzAt_list h1
    obtain ⟨b1, b2⟩ := frz_list h2
    refine ⟨a1.app b1, fun x hx => ?_⟩
    rcases List.mem_cons.1 hx with rfl | hx
    · exact Among.app (.inl a2)
    · exact Among.app (.inr (b2 x hx))
theorem frz_keys {xs : List (At E)} {l l' : List Nat} {u : Up E} (h : RM.Out S.h (frz xs) l u l') : ∀ id b, lk u id = some b → FrzB S id b := (frz_list h).1.keys
theorem frz_sound (hS : Sim cx G S tm W) {xs : List (At E)} {l l' : List Nat} {u : Up E} (h : RM.Out S.h (frz xs) l u l') : Frz cx G S tm W u ∧ ∀ x ∈ xs, Among u x := ⟨frz_all hS (frz_list h).1, (frz_list h).2⟩
/-- Cells whose rows are frozen lie in the new F. -/
theorem Among.inF {u : Up E} {F' : Nat → Prop} (hf : ∀ id b, (lk u id).isSome = true → S.h id = some b → ∀ k, Occ G id b k → F' k) {x : At E} (h : Among u x) : InF G S F' x := by
  cases x <;> first | trivial | exact fun b k hb ho => hf _ b h hb k ho

/-! ### Boxes -/
theorem box_sound {fr : Nat} (hf : lk S.H fr = none) (hS : Sim cx G S a.tmps W) {t : TypeId} {v : Cv E} {w : Value} (hv : CvR G S.k W v w) {l l' : List Nat} {r : Res E} (h : RM.Out S.h (aBox fr t (some v)) l r l') {m : Sem Value}
    (hm : m.run P W = .ok (.pointer (some ⟨W.heap.size, 0, none⟩)) (W.alloc (.cells w.cells t))) : Ends P cx G S a W m r := by
  cases v with
  | «at» x =>
    have hb' := RM.Out_bif h; clear h; obtain ⟨hok, h⟩ := hb'
    obtain rfl := h.1
    rw [AtR.cells hv hok] at hm
    obtain ⟨h1, h2⟩ := hS.alloc hf (.box t [x]) #[w] t undef 0 0 rfl ⟨fun _ _ _ _ h => (by cases h), fun _ _ _ _ _ _ h => (by cases h)⟩ (fun K' hK hE => ⟨[w], by simp only [Gh.add, updf_same]; exact heap_alloc_new W _, w, [], rfl, AtR.ext hE hv, rfl⟩)
    exact ⟨_, _, _, hm, h1, h2, by unfold St.k; simp [lk_cons], by simp [Gh.add, updf_same]⟩
  | agg xs =>
    obtain rfl := h.1
    obtain ⟨vs, rfl, hr⟩ := hv
    obtain ⟨h1, h2⟩ := hS.alloc hf (.box t xs) vs.toArray t undef 0 0 rfl ⟨fun _ _ _ _ h => (by cases h), fun _ _ _ _ _ _ h => (by cases h)⟩ (fun K' hK hE => ⟨vs, by simp only [Gh.add, updf_same]; exact heap_alloc_new W _, hr.ext hE⟩)
    exact ⟨_, _, _, hm, h1, h2, by unfold St.k; simp [lk_cons], by simp [Gh.add, updf_same]⟩
  | arr k n xs =>
    obtain rfl := h.1
    obtain ⟨hl, rfl⟩ := hv
    obtain ⟨h1, h2⟩ := hS.alloc hf (.arr t k n xs) (xs.map (Value.int k)).toArray t undef n 1 rfl ⟨fun _ _ _ _ h => (by cases h), fun _ _ _ _ _ _ h => (by cases h)⟩ (fun K' hK hE => ⟨hl, by simp [Gh.add, updf_same], by simp [Gh.add, updf_same], by simp only [Gh.add, updf_same]; exact heap_alloc_new W _⟩)
    exact ⟨_, _, _, hm, h1, h2, by unfold St.k; simp [lk_cons], by simp [Gh.add, updf_same]⟩
theorem run_newVar (t : TypeId) (w : Value) (W : World) : (newVar t w).run P W = .ok ⟨W.heap.size, 0, none⟩ (W.alloc (.cells w.cells t)) := by
  rfl
theorem asCv_some {x : Option (AV E)} {v : Cv E} (h : asCv x = some v) : x = some (.c v) := by
  unfold asCv at h
  split at h
  · cases h; rfl
  · cases h
theorem boxop_sound {fr : Nat} (hf : lk S.H fr = none) (hS : Sim cx G S a.tmps W) {t : TypeId} {x : Operand} {l l' : List Nat} {r : Res E} (h : RM.Out S.h (aBox fr t (asCv (evO (lk S.ρ) x))) l r l') : Ends P cx G S a W (Instr.box t (a.eval x)) r := by
  cases hv : asCv (evO (lk S.ρ) x) with
  | none => rw [hv] at h; exact h.elim
  | some v =>
    rw [hv] at h
    exact box_sound hf hS (ev_sound hS (asCv_some hv)) h (by simp [Instr.box, run_newVar])
/-- A type's zero value. -/
theorem zero_sound (hT : T.OK P) {t : TypeId} {v : Cv E} (h : T.zeroCv E t = some v) {K : Nat → Prop} : ∃ w, (∀ W : World, (zeroValue t).run P W = .ok w W) ∧ (∀ G W, CvR G K W v w) ∧ ∃ i, P.info? t = some i ∧ i.zero = some w := by
  unfold Tb.zeroCv at h
  split at h
  · split at h
    · rename_i k cs _ hz
      have hz := hT.zero _ _ hz
      cases hc : (cs.toList.all (isZ k) && Nat.beq cs.toList.length _) with
      | false => rw [hc] at h; cases h
      | true =>
        rw [hc] at h
        cases h
        simp only [Bool.and_eq_true] at hc
        have hl := Nat.eq_of_beq_eq_true hc.2
        cases hi : P.info? t with
        | none => rw [hi] at hz; cases hz
        | some i =>
          rw [hi] at hz
          simp only [Option.bind_some] at hz
          have hall : ∀ l : List Value, l.all (isZ k) = true → l = (List.replicate l.length (0 : Int)).map (Value.int k) := by
            intro l
            induction l with
            | nil => intro _; rfl
            | cons x l ih =>
              intro hx
              simp only [List.all_cons, Bool.and_eq_true] at hx
              have h1 : x = .int k 0 := by
                have := hx.1
                cases x <;> simp [isZ] at this
                obtain ⟨h1, rfl⟩ := this
                rw [ikEq_eq h1]
              rw [List.length_cons, List.replicate_succ, List.map_cons, ← ih hx.2, h1]
          refine ⟨.agg cs, fun W => by simp [zeroValue, typeInfo, hi, hz], fun G W => ⟨by simp, ?_⟩, i, rfl, hz⟩
          rw [← hl, ← hall _ hc.1]
    · cases h
  · split at h
    · rename_i z hz
      have hz := hT.zero _ _ hz
      cases hi : P.info? t with
      | none => rw [hi] at hz; cases hz
      | some i =>
        rw [hi] at hz
        simp only [Option.bind_some] at hz
        exact ⟨z, fun W => by simp [zeroValue, typeInfo, hi, hz], fun G W => cvOfVal_sound h, i, rfl, hz⟩
    · cases h
theorem alloc_sound (hT : T.OK P) {fr : Nat} (hf : lk S.H fr = none) (hS : Sim cx G S a.tmps W) {t : TypeId} {l l' : List Nat} {r : Res E} (h : RM.Out S.h (aBox fr t (T.zeroCv E t)) l r l') : Ends P cx G S a W (Instr.alloc t true (.tuple #[])) r := by
  cases hv : T.zeroCv E t with
  | none => rw [hv] at h; exact h.elim
  | some v =>
    rw [hv] at h
    obtain ⟨w, hw, hr, _⟩ := zero_sound hT hv (K := S.k)
    exact box_sound hf hS (hr G W) h (by simp [Instr.alloc, run_newVar, hw])

end Mir
