/- The mirror machine: what an operation does to the world, 1: operations that turn no memory. -/
import Derived.Test.YtbepkbaemapkjaaMir3
namespace Mir
set_option linter.unusedVariables false
open Go
variable {E : Env}

/-! ### The reader -/
theorem RM.Out_bind {α β : Type} {H : Nat → Option (Blk E)} : ∀ {m : RM E α} {f : α → RM E β} {l : List Nat} {x : β} {l' : List Nat},
    RM.Out H (RM.bind m f) l x l' → ∃ y l1, RM.Out H m l y l1 ∧ RM.Out H (f y) l1 x l'
  | .pure a, _, l, _, _, h => ⟨a, l, ⟨rfl, rfl⟩, h⟩
  | .fail, _, _, _, _, h => h.elim
  | .rd id k, _, _, _, _, ⟨b, hb, h⟩ => let ⟨y, l1, h1, h2⟩ := RM.Out_bind h; ⟨y, l1, ⟨b, hb, h1⟩, h2⟩
  | .chk b k, _, _, _, _, ⟨hb, h⟩ => let ⟨y, l1, h1, h2⟩ := RM.Out_bind h; ⟨y, l1, ⟨hb, h1⟩, h2⟩
  | .call m k, _, _, _, _, ⟨z, hz, h⟩ => let ⟨y, l1, h1, h2⟩ := RM.Out_bind h; ⟨y, l1, ⟨z, hz, h1⟩, h2⟩
theorem RM.run_out {α R : Type} {H : Nat → Option (Blk E)} {K : α → List Nat → Option R} {r : R} : ∀ {m : RM E α} {l : List Nat}, m.run H l K = some r → ∃ x l', m.Out H l x l' ∧ K x l' = some r
  | .pure a, l, h => ⟨a, l, ⟨rfl, rfl⟩, h⟩
  | .fail, _, h => by cases h
  | .rd id k, l, h => by
    simp only [RM.run] at h
    cases hb : H id with
    | none => rw [hb] at h; cases h
    | some b =>
      rw [hb] at h
      obtain ⟨x, l', h1, h2⟩ := RM.run_out h
      exact ⟨x, l', ⟨b, hb, h1⟩, h2⟩
  | .chk b k, l, h => by
    cases b with
    | false => cases h
    | true => obtain ⟨x, l', h1, h2⟩ := RM.run_out (m := k) h; exact ⟨x, l', ⟨rfl, h1⟩, h2⟩
  | .call m k, l, h => by
    cases m with
    | none => cases h
    | some y => obtain ⟨x, l', h1, h2⟩ := RM.run_out (m := k y) h; exact ⟨x, l', ⟨y, rfl, h1⟩, h2⟩
theorem RM.Out_bif {α : Type} {H : Nat → Option (Blk E)} {c : Bool} {m : RM E α} {l : List Nat} {x : α} {l' : List Nat} (h : RM.Out H (bif c then m else .fail) l x l') : c = true ∧ RM.Out H m l x l' := by
  cases c with
  | false => exact h.elim
  | true => exact ⟨rfl, h⟩

/-! ### Operands -/
theorem atOfVal_sound {G : Gh} {K : Nat → Prop} {W : World} {v : Value} {x : At E} (h : atOfVal v = some x) : AtR G K W x v := by
  unfold atOfVal at h
  split at h <;> first | (cases h; first | rfl | exact ⟨_, rfl⟩) | cases h
theorem atsOfVals_sound {G : Gh} {K : Nat → Prop} {W : World} : ∀ {vs : List Value} {xs : List (At E)}, atsOfVals vs = some xs → AtsR G K W xs vs
  | [], _, h => by cases h; rfl
  | v :: vs, xs, h => by
    unfold atsOfVals at h
    split at h
    · rename_i x xs h1 h2
      cases h
      exact ⟨v, vs, rfl, atOfVal_sound h1, atsOfVals_sound h2⟩
    · cases h
theorem cvOfVal_sound {G : Gh} {K : Nat → Prop} {W : World} {v : Value} {x : Cv E} (h : cvOfVal v = some x) : CvR G K W x v := by
  unfold cvOfVal at h
  split at h
  · rename_i cs
    obtain ⟨xs, h1, rfl⟩ := Option.map_eq_some_iff.1 h
    exact ⟨cs.toList, by simp, atsOfVals_sound h1⟩
  · obtain ⟨x, h1, rfl⟩ := Option.map_eq_some_iff.1 h
    exact atOfVal_sound h1
theorem ev_sound {cx : Cx} {G : Gh} {S : St E} {a : Act} {W : World} (hS : Sim cx G S a.tmps W) {x : Operand} {v : AV E} (h : evO (lk S.ρ) x = some v) : AVR G S.k W v (a.eval x) := by
  cases x with
  | tmp t => exact hS.tmps t v h
  | const c =>
    obtain ⟨x, h1, rfl⟩ := Option.map_eq_some_iff.1 h
    exact cvOfVal_sound h1
  | func f => cases h; exact ⟨[], rfl, rfl⟩
  | global g => cases h

/-! ### The end of an operation -/
/-- The operation ends, and the state follows. -/
def Ends (P : Program) (cx : Cx) (G : Gh) (S : St E) (a : Act) (W : World) (m : Sem Value) (r : Res E) : Prop :=
  ∃ v W' G', m.run P W = .ok v W' ∧ Sim cx G' { S with H := r.2 ++ S.H } a.tmps W' ∧ Ext G S.k W G' (St.k { S with H := r.2 ++ S.H }) W' ∧ AVR G' (St.k { S with H := r.2 ++ S.H }) W' r.1 v
section
variable {P : Program} {T : Tb} (hT : T.OK P) {cx : Cx} {G : Gh} {S : St E} {a : Act} {W : World}
theorem Sim.nil (hS : Sim cx G S a.tmps W) : Sim cx G { S with H := [] ++ S.H } a.tmps W := hS
theorem Ends.pure (hS : Sim cx G S a.tmps W) {m : Sem Value} {v : AV E} {w : Value} (hm : m.run P W = .ok w W) (hv : AVR G S.k W v w) : Ends P cx G S a W m (v, []) :=
  ⟨w, W, G, hm, hS, Ext.refl _ _ _, hv⟩
theorem one_sound {H : Nat → Option (Blk E)} {v : AV E} {l l' : List Nat} {r : Res E} (h : RM.Out H (one v) l r l') : r = (v, []) := h.1
theorem oneO_sound {H : Nat → Option (Blk E)} {v : Option (AV E)} {l l' : List Nat} {r : Res E} (h : RM.Out H (oneO v) l r l') : ∃ x, v = some x ∧ r = (x, []) := by
  cases v with
  | none => exact h.elim
  | some x => exact ⟨x, rfl, h.1⟩

theorem move_sound (hS : Sim cx G S a.tmps W) {x : Operand} {l l' : List Nat} {r : Res E} (h : RM.Out S.h (oneO (evO (lk S.ρ) x)) l r l') : Ends P cx G S a W (pure (a.eval x)) r := by
  obtain ⟨v, hv, rfl⟩ := oneO_sound h
  exact Ends.pure hS rfl (ev_sound hS hv)

theorem pick_sound (hS : Sim cx G S a.tmps W) {c x y : Operand} {l l' : List Nat} {r : Res E} (h : RM.Out S.h (aPick (evO (lk S.ρ) c) (evO (lk S.ρ) x) (evO (lk S.ρ) y)) l r l') :
    Ends P cx G S a W (do pure (if ← asBool (a.eval c) then a.eval x else a.eval y)) r := by
  unfold aPick at h
  split at h
  · rename_i c' hc
    have hc := ev_sound hS hc
    simp only [AVR, CvR, AtR] at hc
    have hrun : ∀ w, (if c' then a.eval x else a.eval y) = w → ((do pure (if ← asBool (a.eval c) then a.eval x else a.eval y) : Sem Value)).run P W = .ok w W := by
      intro w hw
      rw [hc]
      simp [asBool, hw]
    split at h
    · rename_i v _ hy
      obtain ⟨h1, h2⟩ := h
      have := one_sound h2
      subst this
      have : c' = false := by simpa using h1
      subst this
      exact Ends.pure hS (hrun _ rfl) (ev_sound hS hy)
    · rename_i v _ hx _
      obtain ⟨h1, h2⟩ := h
      have := one_sound h2
      subst this
      have : c' = true := h1
      subst this
      exact Ends.pure hS (hrun _ rfl) (ev_sound hS hx)
    · rename_i p q hx hy
      have hx := ev_sound hS hx
      have hy := ev_sound hS hy
      simp only [AVR, CvR, AtR] at hx hy
      rw [one_sound h]
      refine Ends.pure hS (hrun _ rfl) ?_
      cases c' <;> simp [AVR, CvR, AtR, hx, hy]
    · rename_i k p k' q hx hy
      have hb := RM.Out_bif h; clear h; obtain ⟨hk, h⟩ := hb
      obtain rfl := ikEq_eq hk
      have hx := ev_sound hS hx
      have hy := ev_sound hS hy
      simp only [AVR, CvR, AtR] at hx hy
      rw [one_sound h]
      refine Ends.pure hS (hrun _ rfl) ?_
      cases c' <;> simp [AVR, CvR, AtR, hx, hy]
    · rename_i p q hx hy
      have hx := ev_sound hS hx
      have hy := ev_sound hS hy
      simp only [AVR, CvR, AtR] at hx hy
      rw [one_sound h]
      refine Ends.pure hS (hrun _ rfl) ?_
      cases c' <;> simp [AVR, CvR, AtR, hx, hy]
    · exact h.elim
  · exact h.elim

/-! ### Loads -/
include hT
theorem agg_some {t : TypeId} {b : Bool} (h : T.agg t = some b) (w : World) : (isAgg t).run P w = .ok b w := by
  unfold Tb.agg at h
  cases hd : T.und t with
  | none => rw [hd] at h; cases h
  | some d =>
    rw [hd] at h
    have hu := hT.und t d hd
    cases d <;> cases h <;> simp [isAgg, run_underlying hu]
theorem size_some {t : TypeId} {n : Nat} (h : T.size t = some n) (w : World) : (Go.sizeOf t).run P w = .ok n w := by
  have hs := hT.size t n h
  obtain ⟨i, hi, hn⟩ := Option.map_eq_some_iff.1 hs
  simp [Go.sizeOf, typeInfo, hi, hn]
/-- A load ends, and turns nothing. -/
def LoadP (P : Program) (G : Gh) (S : St E) (W : World) (t : TypeId) (ad : Addr) (r : Res E) : Prop := ∃ v, (loadVar t ad).run P W = .ok v W ∧ AVR G S.k W r.1 v ∧ r.2 = []
theorem part_load (hS : Sim cx G S a.tmps W) {t : TypeId} {cs : List (At E)} {vs : List Value} {ad : Addr} (hr : AtsR G S.k W cs vs)
    (hc : ∀ (j : Nat) (hj : j < vs.length), W.cell? (ad.add j) = some vs[j]) {l l' : List Nat} {r : Res E} (h : RM.Out S.h (partOf T t cs) l r l') : LoadP P G S W t ad r := by
  unfold partOf at h
  split at h
  · rename_i hagg
    split at h
    · rename_i n hn
      have hb := RM.Out_bif h; clear h; obtain ⟨hlen, h⟩ := hb
      rw [one_sound h]
      have hle : (vs.take n).length = n := by
        have h1 := Nat.eq_of_beq_eq_true hlen
        have h2 := (hr.take n).length
        omega
      refine ⟨.agg (vs.take n).toArray, ?_, ⟨_, rfl, hr.take n⟩, rfl⟩
      have hl := run_loadCells_list (P := P) W ad (vs.take n) (fun j v hv => by
        rw [List.getElem?_take] at hv
        split at hv
        · have hj : j < vs.length := by
            rcases Nat.lt_or_ge j vs.length with h | h
            · exact h
            · rw [List.getElem?_eq_none h] at hv; cases hv
          rw [List.getElem?_eq_getElem hj] at hv
          cases hv
          exact hc j hj
        · cases hv)
      rw [hle] at hl
      simp [loadVar, agg_some hT hagg, size_some hT hn, hl]
    · exact h.elim
  · rename_i hagg
    split at h
    · rename_i x r' 
      rw [one_sound h]
      obtain ⟨v, vr, rfl, ha, _⟩ := hr
      refine ⟨v, ?_, ha, rfl⟩
      have := hc 0 (by simp)
      simp only [Addr.add, if_true, List.getElem_cons_zero] at this
      simp [loadVar, agg_some hT hagg, this]
    · exact h.elim
  · exact h.elim
omit hT
theorem cell_loc {W : World} {b : Nat} {cs : Array Value} {t : TypeId} {fr : Nat × Nat} (h : W.heap[b]? = some (.cells cs t fr)) (off : Nat) (ad : Addr) (hb : ad = ⟨b, off, none⟩) (j : Nat) : W.cell? (ad.add j) = cs[off + j]? := by
  subst hb
  have : (⟨b, off, none⟩ : Addr).add j = ⟨b, off + j, none⟩ := by unfold Addr.add; split <;> simp_all
  rw [this]
  simp [World.cell?, h]
theorem CellsAt.cell {W : World} {b : Nat} {cs : Array Value} {t : Nat} (h : CellsAt W b cs t) (off : Nat) (ad : Addr) (hb : ad = ⟨b, off, none⟩) (j : Nat) : W.cell? (ad.add j) = cs[off + j]? := by
  obtain ⟨fz, h1, _⟩ := h
  exact cell_loc h1 off ad hb j
theorem cells_loc {W : World} {b : Nat} {vs : List Value} {t : TypeId} {fr : Nat × Nat} (h : W.heap[b]? = some (.cells vs.toArray t fr)) (off : Nat) (j : Nat) (hj : j < (vs.drop off).length) : W.cell? ((⟨b, off, none⟩ : Addr).add j) = some (vs.drop off)[j] := by
  rw [cell_loc h off _ rfl j]
  have hj' : off + j < vs.length := by simp at hj; omega
  simp [hj']

/-- A datum's cells. -/
theorem toAt_sound {W : World} {F : Nat → Prop} {G : Gh} {K : Nat → Prop} (hF : ∀ b, F b → G.F b) {d : Nat} {t : Ty} {x : Ty.D E.S t} {v : Value} (h : RoA E W F d t x v) : AtR G K W (toAt E t x) v := by
  cases t with
  | slice e t => exact ⟨d, RoA.more hF (fun _ _ => rfl) d d (Nat.le_refl _) _ _ _ h⟩
  | rsl e t => exact ⟨d, RoA.more hF (fun _ _ => rfl) d d (Nat.le_refl _) _ _ _ (RoA_rsl.1 h)⟩
  | st n => cases d <;> exact h.elim
  | arr k n => cases d <;> exact h.elim
  | pbx b n => cases d <;> exact h.elim
  | _ => cases d <;> exact h
theorem toAts_sound {W : World} {F : Nat → Prop} {G : Gh} {K : Nat → Prop} (hF : ∀ b, F b → G.F b) {d : Nat} : ∀ {ts : List Ty} {x : HT E.S ts} {vs : List Value}, RoL E (RoA E W F d) ts x vs → AtsR G K W (toAts E ts x) vs
  | [], _, _, h => h
  | _ :: _, _, _, ⟨v, r, hv, ha, hr⟩ => ⟨v, r, hv, toAt_sound hF ha, toAts_sound hF hr⟩
theorem toCv_cells {W : World} {F : Nat → Prop} {G : Gh} {K : Nat → Prop} (hF : ∀ b, F b → G.F b) {d : Nat} {t : Ty} {x : Ty.D E.S t} {vs : List Value} (h : RoE E (RoA E W F d) t x vs) : AtsR G K W (toCv E t x).cells vs := by
  cases t with
  | st n => exact toAts_sound hF h
  | slice e t => obtain ⟨v, rfl, h⟩ := h; exact ⟨v, [], rfl, ⟨d, RoA.more hF (fun _ _ => rfl) d d (Nat.le_refl _) _ _ _ h⟩, rfl⟩
  | rsl e t => obtain ⟨v, rfl, h⟩ := h; exact ⟨v, [], rfl, ⟨d, RoA.more hF (fun _ _ => rfl) d d (Nat.le_refl _) _ _ _ (RoA_rsl.1 h)⟩, rfl⟩
  | arr k n => obtain ⟨v, _, h⟩ := h; cases d <;> exact h.elim
  | pbx b n => obtain ⟨v, _, h⟩ := h; cases d <;> exact h.elim
  | _ => obtain ⟨v, rfl, h⟩ := h; exact ⟨v, [], rfl, by cases d <;> exact h, rfl⟩
theorem el_get {t : Ty} {xs : List (Ty.D E.S t)} {i : Nat} (h : i < xs.length) : el E t xs i = xs[i] := by
  unfold el
  rw [List.getD_eq_getElem?_getD, List.getElem?_eq_getElem h]
  rfl
include hT
theorem load_soundP (hS : Sim cx G S a.tmps W) {t : TypeId} {x : Operand} {l l' : List Nat} {r : Res E} (h : RM.Out S.h (aLoad T t (evO (lk S.ρ) x)) l r l') : ∃ ad, a.eval x = .pointer (some ad) ∧ LoadP P G S W t ad r := by
  unfold aLoad at h
  split at h
  · rename_i id off hx
    have hx := ev_sound hS hx
    simp only [AVR, CvR, AtR] at hx
    obtain ⟨b, hb, h⟩ := h
    have hB := hS.blks id b hb
    refine ⟨_, hx.2, ?_⟩
    dsimp only at h
    split at h
    · rename_i t0 cells
      obtain ⟨vs, hh, hr⟩ := hB
      exact part_load hT hS (hr.drop off) (cells_loc hh off) h
    · rename_i t' ty n xs
      have hb' := RM.Out_bif h; clear h; obtain ⟨hc, h⟩ := hb'
      rw [one_sound h]
      simp only [Bool.and_eq_true] at hc
      obtain rfl := Nat.eq_of_beq_eq_true hc.1.1
      obtain rfl := Nat.eq_of_beq_eq_true hc.1.2
      obtain ⟨h1, h2, h3, hh⟩ := hB
      have hag : T.agg t = some true ∧ T.size t = some n := by
        have hc := hc.2
        unfold aggIs at hc
        split at hc
        · rename_i m h4 h5
          exact ⟨h4, by rw [h5, Nat.eq_of_beq_eq_true hc]⟩
        · cases hc
      refine ⟨.agg (xs.map (Value.int ty)).toArray, ?_, ⟨h1, rfl⟩, rfl⟩
      have hl := run_loadCells_list (P := P) W ⟨G.loc id, 0, none⟩ (xs.map (Value.int ty)) (fun j v hv => by
        rw [cell_loc hh 0 _ rfl j]; simpa using hv)
      simp only [List.length_map, h1] at hl
      simp [loadVar, agg_some hT hag.1, size_some hT hag.2, hl]
    · rename_i cells
      obtain ⟨vs, hr, _, hc⟩ := hB
      refine part_load hT hS (hr.drop off) (fun j hj => ?_) h
      have hj' : off + j < vs.length := by simp at hj; omega
      have : (⟨G.loc id, off, none⟩ : Addr).add j = ⟨G.loc id, off + j, none⟩ := by unfold Addr.add; split <;> simp_all
      rw [this, hc _ hj']
      simp
    · exact h.elim
  · rename_i id i off hx
    have hx := ev_sound hS hx
    simp only [AVR, CvR, AtR] at hx
    obtain ⟨b, hb, h⟩ := h
    have hB := hS.blks id b hb
    obtain ⟨_, hi, hx⟩ := hx
    refine ⟨_, hx, ?_⟩
    dsimp only at h
    split at h
    · rename_i e ty xs fz
      obtain ⟨h1, h2, h3, hrow⟩ := hB
      rcases hrow with ⟨A, _, hnil⟩ | ⟨cap, cur, d, hhd, hcap, hh, hlen, hmax, hcur, hel⟩
      · subst hnil; rw [h1] at hi; simp at hi
      · rw [h1] at hi
        rw [el_get hi] at h
        have hcells := toCv_cells (G := G) (K := S.k) (fun _ h => h) (hel i hi)
        refine part_load hT hS (hcells.drop off) (fun j hj => ?_) h
        rw [hh.cell _ _ rfl j, h2]
        have hj' : off + j < tsz E ty ∧ i * tsz E ty + (off + j) < cur.size := by
          simp only [List.length_drop, List.length_take, Array.length_toList] at hj
          constructor
          · omega
          · have : (i + 1) * tsz E ty ≤ cap * tsz E ty := Nat.mul_le_mul_right _ (by omega)
            rw [Nat.add_mul] at this
            omega
        rw [Array.getElem?_eq_getElem (by omega)]
        simp [Nat.add_assoc]
    · rename_i t0 k n xs
      have hb' := RM.Out_bif h; clear h; obtain ⟨hc, h⟩ := hb'
      obtain rfl := Nat.eq_of_beq_eq_true hc
      obtain ⟨h1, h2, h3, hh⟩ := hB
      rw [h2, ← h1] at hi
      have hone : AtsR (E := E) G S.k W [.int k (xs.getD i 0)] [.int k xs[i]] := ⟨_, _, rfl, by simp [AtR, hi], rfl⟩
      refine part_load hT hS hone (fun j hj => ?_) h
      have : j = 0 := by simp at hj; omega
      subst this
      rw [cell_loc hh _ _ rfl 0, h3]
      simp [hi]
    · exact h.elim
  · rename_i cells hx
    have hx := ev_sound hS hx
    obtain ⟨ad, vs, hv, hr, _, hc⟩ := hx
    refine ⟨_, hv, ?_⟩
    exact part_load hT hS hr hc h
  · exact h.elim
theorem load_sound (hS : Sim cx G S a.tmps W) {t : TypeId} {x : Operand} {l l' : List Nat} {r : Res E} (h : RM.Out S.h (aLoad T t (evO (lk S.ρ) x)) l r l') : Ends P cx G S a W (Instr.loadAt t (a.eval x)) r := by
  obtain ⟨ad, h1, v, h2, h3, h4⟩ := load_soundP hT hS h
  obtain ⟨x', u⟩ := r
  cases h4
  exact Ends.pure hS (by rw [h1]; simpa [Instr.loadAt, Instr.sureAddr] using h2) h3
omit hT

/-! ### Addresses -/
theorem add_add (a : Addr) (m n : Nat) : (a.add m).add n = a.add (m + n) := by
  unfold Addr.add
  by_cases hm : m = 0
  · simp [hm]
  · by_cases hn : n = 0
    · simp [hn, hm]
    · simp [hm, hn, Nat.add_assoc]
theorem add_lit (b o n : Nat) : (⟨b, o, none⟩ : Addr).add n = ⟨b, o + n, none⟩ := by unfold Addr.add; split <;> simp_all
theorem sizeIs_some (hT : T.OK P) {t : TypeId} {n : Nat} (h : sizeIs T t n = true) (w : World) : (Go.sizeOf t).run P w = .ok n w := by
  unfold sizeIs at h
  split at h
  · rename_i m hm
    obtain rfl := Nat.eq_of_beq_eq_true h
    exact size_some hT hm w
  · cases h
theorem cellIs_some (hT : T.OK P) {t : TypeId} (h : cellIs T t = true) (w : World) : (Go.sizeOf t).run P w = .ok 1 w ∧ (isAgg t).run P w = .ok false w := by
  unfold cellIs at h
  split at h
  · rename_i h1 h2
    exact ⟨size_some hT h2 w, agg_some hT h1 w⟩
  · cases h
theorem fieldAddr_sound (hT : T.OK P) (hS : Sim cx G S a.tmps W) {s : TypeId} {x : Operand} {f : Nat} {l l' : List Nat} {r : Res E} (h : RM.Out S.h (aFieldAddr T s (evO (lk S.ρ) x) f) l r l') : Ends P cx G S a W (Instr.fieldAt s (a.eval x) f) r := by
  unfold aFieldAddr fieldOf at h
  split at h
  · rename_i fd hfd
    split at hfd
    · rename_i fs hu
      have hu := hT.und _ _ hu
      split at h
      · rename_i sz hsz
        have hrun : ∀ ad : Addr, a.eval x = .pointer (some ad) → (Instr.fieldAt s (a.eval x) f).run P W = .ok (.pointer (some (ad.add fd.offset))) W := by
          intro ad he
          rw [he]
          simp [Instr.fieldAt, run_underlying hu, hfd, Instr.sureAddr, fieldPlace, size_some hT hsz]
        split at h
        · rename_i id off hx
          have hx := ev_sound hS hx
          rw [one_sound h]
          refine Ends.pure hS (hrun _ hx.2) ⟨hx.1, ?_⟩
          rw [add_lit]
        · rename_i id i off hx
          have hx := ev_sound hS hx
          rw [one_sound h]
          refine Ends.pure hS (hrun _ hx.2.2) ⟨hx.1, hx.2.1, ?_⟩
          rw [add_lit, Nat.add_assoc]
        · rename_i cells hx
          have hx := ev_sound hS hx
          obtain ⟨ad, vs, hv, hr, hF, hc⟩ := hx
          rw [one_sound h]
          refine Ends.pure hS (hrun _ hv) ⟨ad.add fd.offset, vs.drop fd.offset, rfl, hr.drop _, fun h0 => ?_, fun j hj => ?_⟩
          · have : (ad.add fd.offset).block = ad.block := by unfold Addr.add; split <;> rfl
            rw [this]; exact hF (by simp at h0; omega)
          · rw [add_add, hc _ (by simp at hj; omega)]; simp
        · exact h.elim
      · exact h.elim
    · cases hfd
  · exact h.elim
theorem field_sound (hT : T.OK P) (hS : Sim cx G S a.tmps W) {s : TypeId} {x : Operand} {f : Nat} {l l' : List Nat} {r : Res E} (h : RM.Out S.h (aField T s (evO (lk S.ρ) x) f) l r l') : Ends P cx G S a W (Instr.field s (a.eval x) f) r := by
  unfold aField fieldOf at h
  split at h
  · rename_i fd xs hfd hx
    split at hfd
    · rename_i fs hu
      have hu := hT.und _ _ hu
      have hx := ev_sound hS hx
      obtain ⟨vs, hv, hr⟩ := hx
      have hr := hr.drop fd.offset
      rw [hv]
      have hrun : ∀ w, (part fd.type vs.toArray fd.offset).run P W = .ok w W → (Instr.field s (.agg vs.toArray) f).run P W = .ok w W := by
        intro w hw
        simp [Instr.field, run_underlying hu, hfd, asAgg, hw]
      unfold partOf at h
      split at h
      · rename_i hagg
        split at h
        · rename_i n hn
          have hb := RM.Out_bif h; clear h; obtain ⟨hlen, h⟩ := hb
          rw [one_sound h]
          refine Ends.pure hS (hrun (.agg ((vs.drop fd.offset).take n).toArray) ?_) ⟨_, rfl, hr.take n⟩
          simp [part, agg_some hT hagg, size_some hT hn, List.take_drop]
        · exact h.elim
      · rename_i hagg
        split at h
        · rename_i y r' hxd
          rw [one_sound h]
          rw [hxd] at hr
          obtain ⟨v, vr, hvr, ha, _⟩ := hr
          refine Ends.pure hS (hrun v ?_) ha
          have : vs[fd.offset]? = some v := by
            have := congrArg (·[0]?) hvr
            simpa using this
          simp [part, agg_some hT hagg, this]
        · exact h.elim
      · exact h.elim
    · cases hfd
  · exact h.elim
theorem nilCheck_sound (hS : Sim cx G S a.tmps W) {x : Operand} {l l' : List Nat} {r : Res E} (h : RM.Out S.h (aNilCheck (evO (lk S.ρ) x)) l r l') :
    ∃ v, (∀ o : Oper, o.op = .nilCheck x → (execOp a.eval o).run P W = .ok (.value v) W) ∧ AVR G S.k W r.1 v ∧ r.2 = [] := by
  unfold aNilCheck at h
  split at h
  · rename_i id off hx
    have hx := ev_sound hS hx
    rw [one_sound h]
    exact ⟨_, fun o ho => by first | (simp [execOp, ho, hx.2]; done) | (simp [execOp, ho, hx.2]; rfl), ⟨hx.1, rfl⟩, rfl⟩
  · rename_i id i off hx
    have hx := ev_sound hS hx
    rw [one_sound h]
    exact ⟨_, fun o ho => by first | (simp [execOp, ho, hx.2.2]; done) | (simp [execOp, ho, hx.2.2]; rfl), ⟨hx.1, hx.2.1, rfl⟩, rfl⟩
  · rename_i cs hx
    have hx := ev_sound hS hx
    rw [one_sound h]
    have hx' := hx
    obtain ⟨ad, vs, hv, _⟩ := hx'
    exact ⟨_, fun o ho => by first | (simp [execOp, ho, hv]; done) | (simp [execOp, ho, hv]; rfl), by rw [← hv]; exact hx, rfl⟩
  · rename_i f cs hx
    have hx := ev_sound hS hx
    rw [one_sound h]
    have hx' := hx
    obtain ⟨ws, hv, _⟩ := hx'
    exact ⟨_, fun o ho => by first | (simp [execOp, ho, hv]; done) | (simp [execOp, ho, hv]; rfl), by rw [← hv]; exact hx, rfl⟩
  · exact h.elim
end
end Mir
