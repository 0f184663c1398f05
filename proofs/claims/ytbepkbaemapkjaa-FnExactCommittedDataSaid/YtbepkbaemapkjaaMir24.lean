/- The mirror machine: code. -/
import Derived.Test.YtbepkbaemapkjaaMir23
namespace Mir
set_option linter.unusedVariables false
set_option linter.unusedSimpArgs false
open Go
variable {E : Env} {P : Program} {T : Tb} {Γ : Ctx E} {cx : Cx} {G G' : Gh} {S : St E} {tm : Array Value} {a : Act} {W W' : World}

theorem Sim.drew (hS : Sim cx G S tm W) : Sim cx G S tm { W with drawn := W.drawn + 1 } := by
  have hE : Ext G S.k W G (St.k { S with H := [] ++ S.H }) { W with drawn := W.drawn + 1 } := ⟨fun _ _ => rfl, fun _ _ => rfl, fun _ _ => rfl, fun _ _ => rfl, fun _ _ => rfl, fun _ _ => rfl, fun _ h => h, fun _ h => h, fun _ _ => rfl⟩
  exact hS.upd [] hE ⟨hS.frm.os, hS.frm.tape, hS.frm.output, hS.frm.size, hS.frm.block⟩ (Nat.le_refl _) (fun id b h => by cases h) (fun _ _ _ _ _ _ => rfl) (fun id b k h => by cases h) (fun i j bi bj k h => by cases h) (fun k h => .inl h) (fun id b k h => by cases h)
theorem sub_none {R : Nat → Rc E} {X : Nat → Bool} : ∀ {n : Nat}, (∀ i, i < n → X i = false) → sub X R n = []
  | 0, _ => rfl
  | n + 1, h => by simp only [sub]; rw [h n (Nat.lt_succ_self _), cond_false]; exact sub_none fun i hi => h i (Nat.lt_succ_of_lt hi)
variable {R : Type}
theorem runRegion_sound (hT : T.OK P) (hΓ : GamOK P Γ) (hmix : P.follows .mixedOrders = true) {A : Array Value} {id : Nat} {ops : Array Oper} {draw : Bool} {K : St E → Option R} {x : R} (h : runRegion T Γ ops draw S K = some x) (hI : Inv cx A S.nx S a W)
    {Q : Exit → Act → World → Prop} (hK : ∀ S' a' W', K S' = some x → Inv cx A S'.nx S' a' W' → Q .normal a' W') : (Code.region id ops draw).wp P Q a W := by
  unfold runRegion at h
  cases draw with
  | false =>
    refine wp_region_list ?_
    refine runOps_sound (A := A) hT hΓ ops.toList 0 S [] a W hI h fun S' l' a' W' h' hI' => ?_
    simp only [Bool.not_false, Bool.true_or, cond_true] at h'
    refine hK _ a' W' h' ⟨?_, ?_, hI'.defers, hI'.pin⟩
    · obtain ⟨G, hS⟩ := hI'.sim
      exact ⟨G, hS.congr (fun _ => rfl) (fun _ => rfl) rfl⟩
    · intro k hk
      have := hI'.nx k hk
      simpa using this
  | true =>
    let R0 : Nat → Rc E := fun _ => ⟨none, .a .undef, [], [], false⟩
    have happ : Like S (S.app (pre R0 0)) := ⟨fun _ => rfl, rfl, rfl, rfl, rfl⟩
    obtain ⟨R', S', _, hrec, hl, hk⟩ := trace ops.toList 0 S R0 happ h
    simp only [Nat.zero_add, Array.length_toList] at hrec hl hk
    simp only [Bool.not_true, Bool.false_or] at hk
    cases hind : indep ops (stepsOf R' ops.size) with
    | false => rw [hind] at hk; cases hk
    | true =>
      rw [hind, cond_true] at hk
      unfold indep at hind
      simp only [Bool.and_eq_true] at hind
      have hR : Traced T Γ ops S.nx S R' := ⟨fun i o hi => hrec i o (by simpa using hi), hind.1.1, hind.1.2, hind.2, hI.nx⟩
      refine wp_region_any hmix ?_
      refine any_sound (cx := cx) (A := A) hT hΓ hR ?_ ops.size (Array.replicate ops.size false) a _ (by simp) ?_ ?_ ?_
      · intro a' W' hA
        obtain ⟨⟨G, hS⟩, h2, h3⟩ := hA
        refine hK _ a' W' hk ⟨⟨G, hS.congr (fun s => hl.ρ s) (fun k => by show lk S'.H k = _; rw [hl.H]) hl.n⟩, ?_, h2, ?_⟩
        · intro k hk
          have hk : (lk (S.app (pre R' ops.size)).H k).isSome = true := by rw [← hl.H]; exact hk
          show k < S.nx + STR * ops.size
          rcases heap_live hk with h | ⟨j, h1, _, h3⟩
          · have := hI.nx k h; omega
          · rcases hR.born j k h1 h3 with h | ⟨i, h4, h5, h6, _⟩
            · omega
            · have : STR * (i + 1) ≤ STR * ops.size := Nat.mul_le_mul_left _ (by omega)
              rw [Nat.mul_add] at this
              omega
        · intro s hs
          exact h3 s (by have : S'.pin = S.pin := hl.pin; rw [← this]; exact hs)
      · have := List.countP_le_length (p := fun i => !(Array.replicate ops.size false).getD i false) (l := List.range ops.size)
        simpa using this
      · intro i o hi hx
        exfalso
        revert hx
        simp only [Array.getD]
        split <;> simp
      · obtain ⟨G, hS⟩ := hI.sim
        refine ⟨⟨G, ?_⟩, hI.defers, hI.pin⟩
        rw [sub_none fun i hi => by simp [hi]]
        exact hS.drew.congr (fun _ => rfl) (fun _ => rfl) rfl
/-! ### The state at a loop's head -/
theorem posOf_spec : ∀ {m : List Nat} {id n j : Nat}, posOf m id n = some j → ∃ q, j = n + q ∧ m[q]? = some id
  | [], _, _, _, h => by cases h
  | i :: m, id, n, j, h => by
    unfold posOf at h
    cases hb : Nat.beq i id with
    | true =>
      rw [hb, cond_true] at h
      cases h
      exact ⟨0, rfl, by simp [Nat.eq_of_beq_eq_true hb]⟩
    | false =>
      rw [hb, cond_false] at h
      obtain ⟨q, h1, h2⟩ := posOf_spec h
      exact ⟨q + 1, by omega, by simpa using h2⟩
theorem heapOf_spec {h : Nat → Option (Blk E)} {m : List Nat} : ∀ {l : List Nat} {j i : Nat} {b' : Blk E}, lk (heapOf h m l j) i = some b' → ∃ q id b, i = j + q ∧ l[q]? = some id ∧ h id = some b ∧ b' = renBlk m b
  | [], _, _, _, hl => by cases hl
  | id :: l, j, i, b', hl => by
    have step : ∀ {b'}, lk (heapOf h m l (j + 1)) i = some b' → ∃ q id' b, i = j + q ∧ (id :: l)[q]? = some id' ∧ h id' = some b ∧ b' = renBlk m b := by
      intro b' hl
      obtain ⟨q, id', b, h1, h2, h3⟩ := heapOf_spec hl
      exact ⟨q + 1, id', b, by omega, by simpa using h2, h3⟩
    unfold heapOf at hl
    split at hl
    · rename_i b hb
      rw [lk_cons] at hl
      split at hl
      · rename_i e
        cases hl
        exact ⟨0, id, b, by omega, rfl, hb, rfl⟩
      · exact step hl
    · exact step hl
theorem heapOf_get {h : Nat → Option (Blk E)} {m : List Nat} : ∀ {l : List Nat} {j q id : Nat} {b : Blk E}, l[q]? = some id → h id = some b → lk (heapOf h m l j) (j + q) = some (renBlk m b)
  | [], _, _, _, _, hq, _ => by simp at hq
  | id' :: l, j, q, id, b, hq, hb => by
    cases q with
    | zero =>
      simp only [List.getElem?_cons_zero, Option.some.injEq] at hq
      subst hq
      unfold heapOf
      rw [hb]
      dsimp only
      rw [lk_cons, if_pos (Nat.add_zero j).symm]
    | succ q =>
      have ih := heapOf_get (m := m) (j := j + 1) (show l[q]? = some id by simpa using hq) hb
      rw [show j + 1 + q = j + (q + 1) by omega] at ih
      unfold heapOf
      split
      · rw [lk_cons, if_neg (by omega)]; exact ih
      · exact ih
theorem pick_spec {ρ : List (Nat × AV E)} : ∀ {l : List Nat} {s : Nat} {v : AV E}, lk (pick ρ l) s = some v → lk ρ s = some v
  | [], _, _, h => by cases h
  | t :: l, s, v, h => by
    unfold pick at h
    split at h
    · rename_i w hw
      rw [lk_cons] at h
      split at h
      · rename_i e; subst e; cases h; exact hw
      · exact pick_spec h
    · exact pick_spec h
theorem lk_map {α β : Type} (f : α → β) : ∀ {l : List (Nat × α)} {s : Nat}, lk (l.map fun p => (p.1, f p.2)) s = (lk l s).map f
  | [], _ => rfl
  | (j, b) :: l, s => by
    simp only [List.map_cons, lk_cons]
    split
    · rfl
    · exact lk_map f
section
variable {m : List Nat} {K K' : Nat → Prop} (hK : ∀ (j id : Nat), m[j]? = some id → K' j)
  (hloc : ∀ (j id : Nat), m[j]? = some id → G'.loc j = G.loc id) (hhd : ∀ (j id : Nat), m[j]? = some id → G'.hd j = G.hd id) (hln : ∀ (j id : Nat), m[j]? = some id → G'.ln j = G.ln id) (hsz : ∀ (j id : Nat), m[j]? = some id → G'.sz j = G.sz id) (hF : G'.F = G.F)
include hK hloc hhd hln hsz hF
theorem renAt_sound {x : At E} {v : Value} (h : AtR G K W x v) : AtR G' K' W (renAt m x) v := by
  cases x with
  | own id =>
    simp only [renAt]
    split
    · rename_i j hj
      obtain ⟨q, h1, h2⟩ := posOf_spec hj
      obtain rfl : j = q := by omega
      exact ⟨hK _ _ h2, by rw [hhd _ _ h2]; exact h.2.1, h.2.2⟩
    · trivial
  | sub id o l =>
    simp only [renAt]
    split
    · rename_i j hj
      obtain ⟨q, h1, h2⟩ := posOf_spec hj
      obtain rfl : j = q := by omega
      refine ⟨hK _ _ h2, by rw [hln _ _ h2]; exact h.2.1, ?_⟩
      rw [hloc _ _ h2, hsz _ _ h2, hhd _ _ h2]
      exact h.2.2
    · trivial
  | ptr id o =>
    simp only [renAt]
    split
    · rename_i j hj
      obtain ⟨q, h1, h2⟩ := posOf_spec hj
      obtain rfl : j = q := by omega
      exact ⟨hK _ _ h2, by rw [hloc _ _ h2]; exact h.2⟩
    · trivial
  | eptr id i o =>
    simp only [renAt]
    split
    · rename_i j hj
      obtain ⟨q, h1, h2⟩ := posOf_spec hj
      obtain rfl : j = q := by omega
      exact ⟨hK _ _ h2, by rw [hln _ _ h2]; exact h.2.1, by rw [hloc _ _ h2, hsz _ _ h2]; exact h.2.2⟩
    · trivial
  | ro e t xs => obtain ⟨d, h⟩ := h; exact ⟨d, by rw [hF]; exact h⟩
  | mp id =>
    simp only [renAt]
    split
    · rename_i j hj
      obtain ⟨q, h1, h2⟩ := posOf_spec hj
      obtain rfl : j = q := by omega
      exact ⟨hK _ _ h2, by rw [hloc _ _ h2]; exact h.2⟩
    · trivial
  | inn id hid i c => trivial
  | _ => exact h
theorem renAts_sound : ∀ {xs : List (At E)} {vs : List Value}, AtsR G K W xs vs → AtsR G' K' W (xs.map (renAt m)) vs
  | [], _, h => h
  | _ :: _, _, ⟨v, r, hv, ha, hr⟩ => ⟨v, r, hv, renAt_sound hK hloc hhd hln hsz hF ha, renAts_sound hr⟩
theorem renCv_sound {x : Cv E} {v : Value} (h : CvR G K W x v) : CvR G' K' W (renCv m x) v := by
  cases x with
  | «at» x => exact renAt_sound hK hloc hhd hln hsz hF h
  | agg xs => obtain ⟨vs, hv, h⟩ := h; exact ⟨vs, hv, renAts_sound hK hloc hhd hln hsz hF h⟩
  | arr k n xs => exact h
theorem renCvs_sound : ∀ {xs : List (Cv E)} {vs : List Value}, CvsR G K W xs vs → CvsR G' K' W (xs.map (renCv m)) vs
  | [], _, h => h
  | _ :: _, _, ⟨v, r, hv, ha, hr⟩ => ⟨v, r, hv, renCv_sound hK hloc hhd hln hsz hF ha, renCvs_sound hr⟩
theorem renAV_sound {x : AV E} {v : Value} (h : AVR G K W x v) : AVR G' K' W (renAV m x) v := by
  cases x with
  | c x => exact renCv_sound hK hloc hhd hln hsz hF h
  | rp xs => obtain ⟨a, vs, hv, h, h2, h3⟩ := h; exact ⟨a, vs, hv, renAts_sound hK hloc hhd hln hsz hF h, by rw [hF]; exact h2, h3⟩
  | tup vs => obtain ⟨ws, hv, h⟩ := h; exact ⟨ws, hv, renCvs_sound hK hloc hhd hln hsz hF h⟩
  | clo f vs => obtain ⟨ws, hv, h⟩ := h; exact ⟨ws, hv, renCvs_sound hK hloc hhd hln hsz hF h⟩
end
theorem no_gone {S : St E} {id : Nat} (h : S.h id = some .gone) : False := by
  unfold St.h at h
  cases hl : lk S.H id with
  | none => rw [hl] at h; cases h
  | some b => rw [hl] at h; cases b <;> cases h
theorem norm_sound {A : Array Value} {nx : Nat} (hI : Inv cx A nx S a W) (live : List Nat) : Inv cx A (S.norm live).nx (S.norm live) a W := by
  obtain ⟨G, hS⟩ := hI.sim
  unfold St.norm
  dsimp only
  generalize hm : reach S.h 1000 (List.flatMap (fun p => idsAV p.2) (pick S.ρ live)) [] = m
  cases hc : (nodupB m && m.all fun id => (S.h id).isSome) with
  | false =>
    rw [cond_false]
    exact ⟨⟨G, ⟨hS.sz, fun s v h => (by cases h), fun id b h => (by cases h), fun i j bi bj k h => (by cases h), fun id b k h => (by cases h), fun id b k h => (by cases h), fun id b k h => (by cases h), hS.fr, hS.frm, hS.ff⟩⟩, fun k h => (by cases h), hI.defers, hI.pin⟩
  | true =>
    rw [cond_true]
    simp only [Bool.and_eq_true, List.all_eq_true] at hc
    have hnd := nodupB_iff hc.1
    let G' : Gh := { loc := fun j => G.loc (m.getD j 0), hd := fun j => G.hd (m.getD j 0), ln := fun j => G.ln (m.getD j 0), sz := fun j => G.sz (m.getD j 0), inh := fun j => G.inh (m.getD j 0), fp := fun j => G.fp (m.getD j 0), F := G.F }
    have get : ∀ (j id : Nat), m[j]? = some id → m.getD j 0 = id := fun j id h => by rw [List.getD_eq_getElem?_getD, h]; rfl
    let S' : St E := { ρ := (pick S.ρ live).map fun p => (p.1, renAV m p.2), H := heapOf S.h m m 0, nx := m.length, n := S.n, pin := S.pin }
    have hK : ∀ (j id : Nat), m[j]? = some id → S'.k j := by
      intro j id h
      obtain ⟨b, hb⟩ := Option.isSome_iff_exists.1 (hc.2 id (List.mem_of_getElem? h))
      have := heapOf_get (m := m) (j := 0) h hb
      rw [Nat.zero_add] at this
      show (lk (heapOf S.h m m 0) j).isSome = true
      rw [this]; rfl
    have hh : ∀ j b', S'.h j = some b' → ∃ id b, m[j]? = some id ∧ S.h id = some b ∧ b' = renBlk m b := by
      intro j b' h
      have hl : lk (heapOf S.h m m 0) j = some b' := by
        unfold St.h at h
        show lk S'.H j = some b'
        cases hl : lk S'.H j with
        | none => rw [hl] at h; cases h
        | some c => rw [hl] at h; cases c <;> first | exact h | cases h
      obtain ⟨q, id, b, h1, h2, h3, h4⟩ := heapOf_spec hl
      obtain rfl : j = q := by omega
      exact ⟨id, b, h2, h3, h4⟩
    have hloc : ∀ (j id : Nat), m[j]? = some id → G'.loc j = G.loc id := fun j id h => congrArg G.loc (get j id h)
    have hhd : ∀ (j id : Nat), m[j]? = some id → G'.hd j = G.hd id := fun j id h => congrArg G.hd (get j id h)
    have hln : ∀ (j id : Nat), m[j]? = some id → G'.ln j = G.ln id := fun j id h => congrArg G.ln (get j id h)
    have hsz : ∀ (j id : Nat), m[j]? = some id → G'.sz j = G.sz id := fun j id h => congrArg G.sz (get j id h)
    have hfpe : ∀ (j id : Nat), m[j]? = some id → G'.fp j = G.fp id := fun j id h => congrArg G.fp (get j id h)
    have hinh : ∀ (j id : Nat), m[j]? = some id → G'.inh j = G.inh id := fun j id h => congrArg G.inh (get j id h)
    have hocc : ∀ {j id : Nat} {b : Blk E} {k : Nat}, m[j]? = some id → Occ G' j (renBlk m b) k → Occ G id b k := by
      intro j id b k h ho
      cases b with
      | gone => exact ho
      | box t xs => exact (show k = G'.loc j from ho).trans (hloc j id h)
      | arr t q n xs => exact (show k = G'.loc j from ho).trans (hloc j id h)
      | row e t xs f => exact ⟨ho.1.trans (hloc j id h), by have := ho.2; rw [hhd j id h] at this; exact this⟩
      | hdr => exact ho
      | rbx xs => exact ho
      | mp k' t' es => exact (show k = G'.loc j from ho).trans (hloc j id h)
      | hole e n xs hid i c => exact ho.elim
      | drow e t xs hid =>
        simp only [renBlk] at ho
        split at ho
        · rename_i j' hj'
          obtain ⟨q, e1, e2⟩ := posOf_spec hj'
          obtain rfl : j' = q := by omega
          rcases ho with ho | ho
          · exact .inl ⟨ho.1.trans (hloc j id h), by have := ho.2; rw [hhd j id h] at this; exact this⟩
          · exact .inr (by rw [← hfpe j' hid e2]; exact ho)
        · exact ho.elim
    have hfz : ∀ {b : Blk E}, (renBlk m b).fz = b.fz := fun {b} => by
      cases b with
      | drow e t xs hid =>
        simp only [renBlk]
        split <;> rfl
      | _ => rfl
    refine ⟨⟨G', ?_, ?_, ?_, ?_, ?_, ?_, ?_, hS.fr, hS.frm, hS.ff⟩, ?_, hI.defers, hI.pin⟩
    · exact hS.sz
    · intro s v h
      have h : lk ((pick S.ρ live).map fun p => (p.1, renAV m p.2)) s = some v := h
      rw [lk_map] at h
      obtain ⟨w, hw, rfl⟩ := Option.map_eq_some_iff.1 h
      exact renAV_sound hK hloc hhd hln hsz rfl (hS.tmps s w (pick_spec hw))
    · intro j b' h
      obtain ⟨id, b, h1, h2, rfl⟩ := hh j b' h
      have hb := hS.blks id b h2
      cases b with
      | gone => exact hb
      | box t xs =>
        obtain ⟨vs, h3, h4⟩ := hb
        exact ⟨vs, by rw [hloc j id h1]; exact h3, renAts_sound hK hloc hhd hln hsz rfl h4⟩
      | arr t q n xs =>
        obtain ⟨h3, h4, h5, h6⟩ := hb
        exact ⟨h3, by rw [hln j id h1]; exact h4, by rw [hsz j id h1]; exact h5, by rw [hloc j id h1]; exact h6⟩
      | row e t xs f =>
        obtain ⟨h3, h4, h5, h6⟩ := hb
        refine ⟨by rw [hln j id h1]; exact h3, by rw [hsz j id h1]; exact h4, h5, ?_⟩
        rw [hhd j id h1, hloc j id h1]
        exact h6
      | hdr => trivial
      | hole e n xs hid i c => exact absurd h (fun h => no_gone h)
      | mp k' t' es =>
        obtain ⟨l, clock, h3, h4, h5⟩ := hb
        exact ⟨l, clock, by rw [hloc j id h1]; exact h3, h4, h5⟩
      | rbx xs =>
        obtain ⟨vs, h3, h4, h5⟩ := hb
        exact ⟨vs, renAts_sound hK hloc hhd hln hsz rfl h3, by rw [hloc j id h1]; exact h4, by rw [hloc j id h1]; exact h5⟩
      | drow e t xs hid =>
        obtain ⟨h0, h3, h4, h5, h6⟩ := hb
        simp only [renBlk] at h ⊢
        split
        · rename_i j' hj'
          obtain ⟨q, e1, e2⟩ := posOf_spec hj'
          obtain rfl : j' = q := by omega
          refine ⟨hK _ _ e2, by rw [hln j id h1]; exact h3, by rw [hsz j id h1]; exact h4, h5, ?_⟩
          rw [hhd j id h1, hloc j id h1, hfpe j' hid e2, hinh j' hid e2]
          exact h6
        · rename_i hj'
          rw [hj'] at h
          exact (no_gone h).elim
    · intro i j bi bj k hi hj hoi hoj
      obtain ⟨id, b, h1, h2, rfl⟩ := hh i bi hi
      obtain ⟨id', c, h3, h4, rfl⟩ := hh j bj hj
      have := hS.inj id id' b c k h2 h4 (hocc h1 hoi) (hocc h3 hoj)
      subst this
      have hi' : i < m.length := by
        by_cases h : i < m.length
        · exact h
        · rw [List.getElem?_eq_none (by omega)] at h1; cases h1
      exact (List.getElem?_inj hi' hnd).1 (h1.trans h3.symm)
    · intro j b' k h ho hf
      obtain ⟨id, b, h1, h2, rfl⟩ := hh j b' h
      exact hS.sepF id b k h2 (hocc h1 ho) (hfz ▸ hf)
    · intro j b' k h ho hf
      obtain ⟨id, b, h1, h2, rfl⟩ := hh j b' h
      exact hS.sep id b k h2 (hocc h1 ho) (hfz ▸ hf)
    · intro j b' k h ho hf
      obtain ⟨id, b, h1, h2, rfl⟩ := hh j b' h
      exact hS.own id b k h2 (hocc h1 ho) (hfz ▸ hf)
    · intro k hk
      obtain ⟨b, hb⟩ := Option.isSome_iff_exists.1 hk
      obtain ⟨q, id, c, h1, h2, _⟩ := heapOf_spec hb
      obtain rfl : k = q := by omega
      show k < m.length
      by_cases h : k < m.length
      · exact h
      · rw [List.getElem?_eq_none (by omega)] at h2; cases h2
end Mir
