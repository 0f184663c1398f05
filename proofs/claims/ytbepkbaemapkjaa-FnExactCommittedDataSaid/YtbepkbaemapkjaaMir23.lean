/- The mirror machine: regions in whatever order, 3. -/
import Derived.Test.YtbepkbaemapkjaaMir22
namespace Mir
set_option linter.unusedVariables false
set_option linter.unusedSimpArgs false
open Go
variable {E : Env} {P : Program} {T : Tb} {Γ : Ctx E} {cx : Cx} {G G' : Gh} {S : St E} {tm : Array Value} {a : Act} {W W' : World}
variable {R : Nat → Rc E} {S0 : St E} {X X' : Nat → Bool}

/-- What is known of a region that was traced. -/
structure Traced (T : Tb) (Γ : Ctx E) (all : Array Oper) (nx : Nat) (S0 : St E) (R : Nat → Rc E) : Prop where
  recs : ∀ i o, all[i]? = some o → RecOK T Γ all nx S0 (S0.app (pre R i)) i o (R i)
  steps : indepSteps (befores all.toList) (stepsOf R all.size) = true
  names : indepNames all (befores all.toList) = true
  edges : edgesOK all.toList 0 = true
  low : ∀ k, (lk S0.H k).isSome = true → k < nx
section
variable {all : Array Oper} {nx : Nat} (hR : Traced T Γ all nx S0 R)
include hR
theorem Traced.ex {j k : Nat} (hj : j < all.size) (hk : k ∈ keys (R j)) : (R j).ex = true := by
  have := (hR.recs j all[j] (by simp [hj])).guard
  rcases this with h | ⟨_, _, h, _⟩
  · exact h.1
  · unfold keys at hk; rw [h] at hk; cases hk
/-- Where a block's number comes from. -/
theorem Traced.born : ∀ (j k : Nat), j < all.size → k ∈ keys (R j) → k < nx ∨ ∃ i, i ≤ j ∧ nx + STR * i ≤ k ∧ k < nx + STR * i + STR ∧ k ∈ keys (R i) := by
  intro j
  induction j using Nat.strongRecOn with
  | _ j ih =>
    intro k hj hk
    have hrec := hR.recs j all[j] (by simp [hj])
    obtain ⟨p, hp, rfl⟩ := List.mem_map.1 hk
    rcases hrec.keys p hp with h | h
    · have hout := hrec.out (hR.ex hj hk)
      rcases RM.Out_live hout p.1 h with h | ⟨b, hb⟩
      · cases h
      · have : (lk (S0.app (pre R j)).H p.1).isSome = true := St.h_k hb
        rcases heap_live this with h | ⟨j', h1, _, h2⟩
        · exact .inl (hR.low _ h)
        · rcases ih j' h1 p.1 (by omega) h2 with h | ⟨i, h3, h4⟩
          · exact .inl h
          · exact .inr ⟨i, by omega, h4⟩
    · exact .inr ⟨j, Nat.le_refl _, h.1, h.2, hk⟩
variable (hX : Down all X) (hsz : ∀ i, X i = true → i < all.size)
include hX hsz
theorem Traced.before {i j : Nat} {o : Oper} (hi : all[i]? = some o) (hiX : (∀ e ∈ o.after, Region.binds .any e = true → X e.on = true)) (hji : j < i) (hj : X j = false) {k : Nat} (h1 : k ∈ keys (R j)) (h2 : k ∈ (R i).rs ∨ k ∈ keys (R i)) (hex : (R i).ex = true) : False := by
  have hlt : i < all.size := by
    by_cases h : i < all.size
    · exact h
    · rw [Array.getElem?_eq_none (by omega)] at hi; cases hi
  have := indepSteps_spec hR.steps i j hji hlt hex (hR.ex (by omega) h1)
  unfold sepSteps at this
  simp only [Bool.or_eq_true, Bool.and_eq_true, Bool.not_eq_true'] at this
  rcases this with h | ⟨⟨h3, h4⟩, h5⟩
  · have := hX.bef hsz i o hi hiX j h
    rw [hj] at this; cases this
  · rcases h2 with h2 | h2
    · rw [meets_of h2 h1] at h5; cases h5
    · rw [meets_of h2 h1] at h3; cases h3
theorem Traced.behind {i j : Nat} (hij : i < j) (hjn : j < all.size) (hi : X i = false) (hj : X j = true) {k : Nat} (h1 : k ∈ keys (R j)) (h2 : k ∈ (R i).rs ∨ k ∈ keys (R i)) (hex : (R i).ex = true) : False := by
  have := indepSteps_spec hR.steps j i hij hjn (hR.ex hjn h1) hex
  unfold sepSteps at this
  simp only [Bool.or_eq_true, Bool.and_eq_true, Bool.not_eq_true'] at this
  rcases this with h | ⟨⟨h3, h4⟩, h5⟩
  · have := hX.bef hsz j all[j] (by simp [hjn]) (fun e he hb => hX j _ (by simp [hjn]) hj e he hb) i h
    rw [hi] at this; cases this
  · rcases h2 with h2 | h2
    · rw [meets_of h1 h2] at h4; cases h4
    · rw [meets_of h1 h2] at h3; cases h3
/-- What an operation that is ready looks at is as in text order. -/
theorem Traced.slot {i : Nat} {o : Oper} (hi : all[i]? = some o) (hiX : (∀ e ∈ o.after, Region.binds .any e = true → X e.on = true)) (hin : X i = false) {s : Nat} (hs : s ∈ o.looksAt all ∨ o.dst = some s) :
    ∀ j, j < all.size → j ≠ i → (R j).d = some s → X j = decide (j < i) := by
  intro j hj hne hd
  have hjo : all[j]? = some all[j] := by simp [hj]
  rw [(hR.recs j _ hjo).d] at hd
  by_cases hlt : j < i
  · rw [decide_eq_true hlt]
    cases hx : X j with
    | true => rfl
    | false =>
      exfalso
      rcases indepNames_spec hR.names hlt hi hjo with h | h
      · have := hX.bef hsz i o hi hiX j h
        rw [hx] at this; cases this
      · obtain ⟨h1, h2, h3⟩ := Oper.apart_spec h
        rcases hs with hs | hs
        · exact h3 s hd hs
        · exact h2 s hs hd
  · rw [decide_eq_false hlt]
    cases hx : X j with
    | false => rfl
    | true =>
      exfalso
      rcases indepNames_spec hR.names (show i < j by omega) hjo hi with h | h
      · have := hX.bef hsz j _ hjo (fun e he hb => hX j _ hjo hx e he hb) i h
        rw [hin] at this; cases this
      · obtain ⟨h1, h2, h3⟩ := Oper.apart_spec h
        rcases hs with hs | hs
        · exact h1 s hd hs
        · exact h2 s hd hs
end
/-- What holds between the operations of a region, some of which are done. -/
structure AnyInv (cx : Cx) (A : Array Value) (all : Array Oper) (S0 : St E) (R : Nat → Rc E) (X : Nat → Bool) (a : Act) (W : World) : Prop where
  sim : ∃ G, Sim cx G (S0.app (sub X R all.size)) a.tmps W
  defers : a.defers = []
  pin : ∀ s ∈ S0.pin, a.tmps.getD s undef = A.getD s undef
theorem any_step (hT : T.OK P) (hΓ : GamOK P Γ) {A : Array Value} {all : Array Oper} {nx : Nat} (hR : Traced T Γ all nx S0 R) (hX : Down all X) (hsz : ∀ i, X i = true → i < all.size) {i : Nat} {o : Oper} (hi : all[i]? = some o)
    (hiX : (∀ e ∈ o.after, Region.binds .any e = true → X e.on = true)) (hin : X i = false) (hX' : ∀ j, X' j = if j = i then true else X j) (hI : AnyInv cx A all S0 R X a W)
    {K : Act → World → Prop} {Q : Exit → Act → World → Prop} (hK : ∀ a' W', AnyInv cx A all S0 R X' a' W' → K a' W') : wpOp P all Q i K a W := by
  have hlt : i < all.size := by
    by_cases h : i < all.size
    · exact h
    · rw [Array.getElem?_eq_none (by omega)] at hi; cases hi
  have hrec := hR.recs i o hi
  obtain ⟨G, hS⟩ := hI.sim
  have hpre : pre R i = sub (fun j => decide (j < i)) R all.size := (sub_lt (Nat.le_of_lt hlt)).symm
  -- slots
  have hslot : ∀ s ∈ o.looksAt all, lk (S0.app (sub X R all.size)).ρ s = lk (S0.app (pre R i)).ρ s := by
    intro s hs
    rw [hpre]
    refine slot_congr fun j hj hd => ?_
    by_cases hne : j = i
    · subst hne; rw [hin, decide_eq_false (Nat.lt_irrefl _)]
    · exact hR.slot hX hsz hi hiX hin (.inl hs) j hj hne hd
  -- blocks
  have hheap : ∀ k, (k ∈ (R i).rs ∨ k ∈ keys (R i)) → (R i).ex = true → ∀ j, j < all.size → k ∈ keys (R j) → j ≠ i → X j = decide (j < i) := by
    intro k hk hex j hj hkj hne
    by_cases hji : j < i
    · rw [decide_eq_true hji]
      cases hx : X j with
      | true => rfl
      | false => exact (hR.before hX hsz hi hiX hji hx hkj hk hex).elim
    · rw [decide_eq_false hji]
      cases hx : X j with
      | false => rfl
      | true => exact (hR.behind hX hsz (show i < j by omega) hj hin hx hkj hk hex).elim
  have hb : ∀ k ∈ (R i).rs, (R i).ex = true → (S0.app (sub X R all.size)).h k = (S0.app (pre R i)).h k := by
    intro k hk hex
    unfold St.h
    rw [hpre, heap_congr (X' := fun j => decide (j < i))]
    intro j hj hkj
    by_cases hne : j = i
    · subst hne; rw [hin, decide_eq_false (Nat.lt_irrefl _)]
    · exact hheap k (.inl hk) hex j hj hkj hne
  -- the state behind
  have hput : ∀ {S1 : St E} {G1 : Gh} {v : Value} {W1 : World}, Sim cx G1 S1 a.tmps W1 → (∀ s, lk S1.ρ s = lk (S0.app (sub X R all.size)).ρ s) → S1.n = S0.n → (S1.H = (R i).u ++ (S0.app (sub X R all.size)).H) → AVR G1 S1.k W1 (R i).v v → ((R i).u ≠ [] → (R i).ex = true) → AnyInv cx A all S0 R X' (a.put o.dst v) W1 := by
    intro S1 G1 v W1 hS1 hρ hn hH hv hex
    have hXi : X' i = true := by rw [hX', if_pos rfl]
    have hXj : ∀ j, j ≠ i → X' j = X j := fun j hj => by rw [hX', if_neg hj]
    have hHeq : ∀ k, lk (S0.app (sub X' R all.size)).H k = lk ((R i).u ++ (S0.app (sub X R all.size)).H) k := by
      intro k
      rw [lk_append]
      split
      · rename_i b hl
        have hki : k ∈ keys (R i) := List.mem_map.2 ⟨_, lk_mem hl, rfl⟩
        refine heap_top hl hXi hlt fun j h1 h2 h3 h4 => ?_
        have := hheap k (.inr hki) (hex (fun h => by rw [h] at hl; cases hl)) j h2 h4 (by omega)
        rw [hXj j (by omega)] at h3
        rw [h3, decide_eq_false (by omega)] at this
        cases this
      · rename_i hl
        refine heap_congr fun j hj hk => ?_
        by_cases hne : j = i
        · subst hne
          obtain ⟨p, hp, rfl⟩ := List.mem_map.1 hk
          have := mem_lk (b := p.2) hp
          rw [hl] at this; cases this
        · exact hXj j hne
    cases hd : o.dst with
    | none =>
      refine ⟨⟨G1, hS1.congr (fun s => ?_) (fun k => by rw [hHeq, hH]) hn.symm⟩, hI.defers, hI.pin⟩
      rw [hρ]
      refine slot_congr fun j hj hdj => ?_
      by_cases hne : j = i
      · subst hne; rw [hrec.d, hd] at hdj; cases hdj
      · exact hXj j hne
    | some d =>
      obtain ⟨hdn, hdp⟩ := hrec.dst d hd
      have h2 := hS1.setρ (d := d) (by rw [hn]; exact hdn) hv
      refine ⟨⟨G1, h2.congr (fun s => ?_) (fun k => by rw [hHeq]; show _ = lk S1.H k; rw [hH]) hn.symm⟩, hI.defers, pin_put hI.pin hdp⟩
      show _ = lk ((d, (R i).v) :: S1.ρ) s
      rw [lk_cons]
      split
      · rename_i e
        subst e
        refine slot_top (by rw [hrec.d, hd]) hXi hlt fun j h1 h3 h4 h5 => ?_
        have := hR.slot hX hsz hi hiX hin (.inr hd) j h3 (by omega) h5
        rw [hXj j (by omega)] at h4
        rw [h4, decide_eq_false (by omega)] at this
        cases this
      · rename_i hne
        rw [hρ]
        refine slot_congr fun j hj hdj => ?_
        by_cases hne' : j = i
        · subst hne'; rw [hrec.d, hd] at hdj; cases hdj; exact absurd rfl hne
        · exact hXj j hne'
  have gslot : ∀ j want d, o.guard = some (j, want) → (all[j]?).bind (·.dst) = some d → d ∈ o.looksAt all := by
    intro j want d hg hd
    unfold Oper.looksAt
    rw [hg]
    simp [hd]
  unfold wpOp
  rw [hi]
  dsimp only
  rcases hrec.guard with ⟨hex, hg⟩ | ⟨hex, hv, hu, j, want, d, hg, hd, hρ⟩
  · have hw : Region.wanted o (yielded all a.tmps) = true := by
      rcases hg with hg | ⟨j, want, d, hg, hd, hρ⟩
      · simp [Region.wanted, hg]
      · have hl : lk (S0.app (sub X R all.size)).ρ d = some (.bool want) := by rw [hslot d (gslot j want d hg hd)]; exact hρ
        have hv : a.tmps.getD d undef = .bool want := hS.tmps d _ hl
        have hy := yielded_of (all := all) (tm := a.tmps) hd
        rw [hv] at hy
        simp [Region.wanted, hg, hy]
    rw [if_pos hw]
    refine .inl ?_
    have hout := hrec.out hex
    have hcg : aopC T Γ (nx + STR * i) (lk (S0.app (pre R i)).ρ) o.op = aopC T Γ (nx + STR * i) (lk (S0.app (sub X R all.size)).ρ) o.op := by
      refine aopC_congr fun x hx => ?_
      cases x with
      | tmp t => exact (hslot t (List.mem_append_left _ (List.mem_filterMap.2 ⟨.tmp t, by simpa using hx, rfl⟩))).symm
      | _ => rfl
    rw [hcg] at hout
    have hout := RM.Out_local hout (fun k hk => hb k hk hex)
    refine aopC_sound hT hΓ hS (fun k h1 h2 => ?_) hout fun v W' G' hS' hv => hK _ _ (hput (S1 := { S0.app (sub X R all.size) with H := (R i).u ++ (S0.app (sub X R all.size)).H }) hS' (fun s => rfl) rfl rfl hv fun _ => hex)
    cases hl : lk (S0.app (sub X R all.size)).H k with
    | none => rfl
    | some b =>
      exfalso
      rcases heap_live (R := R) (X := X) (S0 := S0) (n := all.size) (k := k) (by rw [hl]; rfl) with h | ⟨j, h3, h4, h5⟩
      · have := hR.low k h; omega
      · rcases hR.born j k h3 h5 with h | ⟨i', h6, h7, h8, h9⟩
        · omega
        · have : i' = i := by
            rcases Nat.lt_trichotomy i' i with h | h | h
            · have : STR * (i' + 1) ≤ STR * i := Nat.mul_le_mul_left _ h
              rw [Nat.mul_add] at this; omega
            · exact h
            · have : STR * (i + 1) ≤ STR * i' := Nat.mul_le_mul_left _ h
              rw [Nat.mul_add] at this; omega
          subst this
          have hne : j ≠ i' := fun e => by subst e; rw [hin] at h4; cases h4
          have := hheap k (.inr h9) hex j h3 h5 hne
          rw [h4, decide_eq_false (by omega)] at this
          cases this
  · have hl : lk (S0.app (sub X R all.size)).ρ d = lk (S0.app (pre R i)).ρ d := hslot d (gslot j want d hg hd)
    have hy := yielded_of (all := all) (tm := a.tmps) hd
    have hw : Region.wanted o (yielded all a.tmps) = false := by
      rcases hρ with hρ | hρ
      · have hv : a.tmps.getD d undef = .bool (!want) := hS.tmps d _ (hl.trans hρ)
        rw [hv] at hy
        cases want <;> simp [Region.wanted, hg, hy]
      · have hv : a.tmps.getD d undef = undef := hS.tmps d _ (hl.trans hρ)
        rw [hv] at hy
        simp [Region.wanted, hg, hy, undef]
    rw [hw]
    simp only [Bool.false_eq_true, if_false]
    exact hK _ _ (hput (v := undef) hS (fun _ => rfl) rfl (by rw [hu]; rfl) (by rw [hv]; rfl) (fun h => absurd hu h))
theorem any_sound (hT : T.OK P) (hΓ : GamOK P Γ) {A : Array Value} {all : Array Oper} {nx : Nat} (hR : Traced T Γ all nx S0 R) {Q : Exit → Act → World → Prop} (hQ : ∀ a W, AnyInv cx A all S0 R (fun _ => true) a W → Q .normal a W) :
    ∀ (fuel : Nat) (listed : Array Bool) (a : Act) (W : World), listed.size = all.size → (List.range all.size).countP (fun i => !listed.getD i false) ≤ fuel → Down all (fun i => listed.getD i false) → AnyInv cx A all S0 R (fun i => listed.getD i false) a W → wpAny P .any all Q fuel listed a W := by
  have done : ∀ (listed : Array Bool) (a : Act) (W : World), listed.size = all.size → (∀ i, i < all.size → listed.getD i false = true) → AnyInv cx A all S0 R (fun i => listed.getD i false) a W → Q .normal a W := by
    intro listed a W hs hall hI
    have e : sub (fun i => listed.getD i false) R all.size = pre R all.size := by
      have : ∀ n, n ≤ all.size → sub (fun i => listed.getD i false) R n = pre R n := by
        intro n
        induction n with
        | zero => intro _; rfl
        | succ n ih => intro hn; simp only [sub]; rw [ih (by omega), hall n (by omega)]
      exact this _ (Nat.le_refl _)
    obtain ⟨⟨G, hS⟩, h2, h3⟩ := hI
    rw [e] at hS
    exact hQ a W ⟨⟨G, hS⟩, h2, h3⟩
  have rdy : ∀ (listed : Array Bool), listed.size = all.size → Region.ready .any all listed = [] → ∀ i, i < all.size → listed.getD i false = true := by
    intro listed hs hr i
    induction i using Nat.strongRecOn with
    | _ i ih =>
      intro hi
      cases hx : listed.getD i false with
      | true => rfl
      | false =>
        exfalso
        have : i ∈ Region.ready .any all listed := mem_ready.2 ⟨by simp [hs, hi] at hx ⊢; exact hx, all[i], by simp [hi], fun e he hb => by
          have := edgesOK_spec hR.edges i all[i] (by simp [hi]) e he hb
          exact ih e.on (by omega) (by omega)⟩
        rw [hr] at this; cases this
  intro fuel
  induction fuel with
  | zero =>
    intro listed a W hs hc hD hI
    have hall : ∀ i, i < all.size → listed.getD i false = true := by
      intro i hi
      have := List.countP_eq_zero.1 (Nat.le_zero.1 hc) i (List.mem_range.2 hi)
      simpa using this
    refine ⟨?_, done listed a W hs hall hI⟩
    cases hr : Region.ready .any all listed with
    | nil => rfl
    | cons j r =>
      exfalso
      obtain ⟨h1, o, ho, _⟩ := mem_ready.1 (show j ∈ Region.ready .any all listed by rw [hr]; exact List.mem_cons_self ..)
      have hj : j < all.size := by
        by_cases h : j < all.size
        · exact h
        · rw [Array.getElem?_eq_none (by omega)] at ho; cases ho
      have := hall j hj
      simp [hs, hj] at h1 this
      rw [this] at h1; cases h1
  | succ fuel ih =>
    intro listed a W hs hc hD hI
    refine ⟨fun hr => done listed a W hs (rdy listed hs hr) hI, fun i hi => ?_⟩
    obtain ⟨h1, o, ho, hafter⟩ := mem_ready.1 hi
    have hil : i < all.size := by
      by_cases h : i < all.size
      · exact h
      · rw [Array.getElem?_eq_none (by omega)] at ho; cases ho
    have hin : listed.getD i false = false := by simp [hs, hil] at h1 ⊢; exact h1
    have hset : ∀ j, (listed.setIfInBounds i true).getD j false = if j = i then true else listed.getD j false := by
      intro j
      by_cases e : j = i
      · subst e; simp [hs, hil]
      · rw [if_neg e]; exact getD_set_ne false (Ne.symm e)
    refine any_step hT hΓ hR hD (fun j hj => ?_) ho hafter hin hset hI fun a' W' hI' => ih _ a' W' (by simpa using hs) ?_ ?_ hI'
    · by_cases h : j < all.size
      · exact h
      · simp [hs, h] at hj
    · have : (List.range all.size).countP (fun j => !(listed.setIfInBounds i true).getD j false) < (List.range all.size).countP (fun j => !listed.getD j false) := by
        have gen : ∀ (l : List Nat), i ∈ l → l.countP (fun j => !(listed.setIfInBounds i true).getD j false) < l.countP (fun j => !listed.getD j false) := by
          have le : ∀ (l : List Nat), l.countP (fun j => !(listed.setIfInBounds i true).getD j false) ≤ l.countP (fun j => !listed.getD j false) := by
            intro l
            refine List.countP_mono_left fun j _ hj => ?_
            rw [hset] at hj
            split at hj
            · cases hj
            · exact hj
          intro l
          induction l with
          | nil => intro h; cases h
          | cons j l ih =>
            intro h
            by_cases e : j = i
            · subst e
              rw [List.countP_cons_of_neg (by rw [hset, if_pos rfl]; simp), List.countP_cons_of_pos (by rw [hin]; rfl)]
              exact Nat.lt_succ_of_le (le l)
            · have := ih ((List.mem_cons.1 h).resolve_left (Ne.symm e))
              simp only [List.countP_cons]
              rw [hset, if_neg e]
              omega
        exact gen _ (List.mem_range.2 hil)
      omega
    · intro j o' hj hx e he hb
      dsimp only at hx ⊢
      rw [hset] at hx ⊢
      split
      · rfl
      · split at hx
        · rename_i h2; subst h2
          rw [ho] at hj; cases hj
          exact hafter e he hb
        · exact hD j o' hj hx e he hb
end Mir
