/- The mirror machine: what a function's specification says. -/
import Derived.Test.YtfgcbamnclkiiaaMir13
namespace Mir
set_option linter.unusedVariables false
set_option linter.unusedSimpArgs false
open Go
variable {E : Env} {P : Program} {T : Tb} {cx : Cx} {G G' : Gh} {S : St E} {tm : Array Value} {a : Act} {W W' : World}

/-! ### Values that own their rows -/
section
variable (E) (W : World) (F : Nat → Prop)
def OwnA : (t : Ty) → Ty.D E.S t → Value → List Nat → Prop
  | .int k, x, v, fp => v = .int k x ∧ fp = []
  | .bool, x, v, fp => v = .bool x ∧ fp = []
  | .str, x, v, fp => v = .string x ∧ fp = []
  | .slice e t, xs, v, fp => (∃ A, v = .slice A 0 0 ∧ xs = [] ∧ fp = []) ∨
      ∃ g cap cur d, v = .slice (some ⟨g, 0, none⟩) xs.length cap ∧ fp = [g] ∧ 0 < cap ∧ W.heap[g]? = some (.cells cur e (0, 0)) ∧ xs.length ≤ cap ∧ cap ≤ maxLen ∧ cap * tsz E t ≤ cur.size ∧
        ∀ (i : Nat) (hi : i < xs.length), RoE E (RoA E W F d) t xs[i] ((cur.toList.drop (i * tsz E t)).take (tsz E t))
  | .st _, _, _, _ => False
def OwnL : (ts : List Ty) → HT E.S ts → List Value → List Nat → Prop
  | [], _, vs, fp => vs = [] ∧ fp = []
  | t :: ts, h, vs, fp => ∃ v r f1 f2, vs = v :: r ∧ fp = f1 ++ f2 ∧ OwnA E W F t h.1 v f1 ∧ OwnL ts h.2 r f2
def OwnE : (t : Ty) → Ty.D E.S t → Value → List Nat → Prop
  | .st n, x, w, fp => ∃ vs : List Value, w = .agg vs.toArray ∧ OwnL E W F (E.fl n) (E.opn n x) vs fp
  | .int k, x, w, fp => OwnA E W F (.int k) x w fp
  | .bool, x, w, fp => OwnA E W F .bool x w fp
  | .str, x, w, fp => OwnA E W F .str x w fp
  | .slice e t, x, w, fp => OwnA E W F (.slice e t) x w fp
def RoV : (t : Ty) → Ty.D E.S t → Value → Prop
  | .st n, x, w => ∃ (vs : List Value) (d : Nat), w = .agg vs.toArray ∧ RoL E (RoA E W F d) (E.fl n) (E.opn n x) vs
  | t, x, w => ∃ d, RoA E W F d t x w
def OwnEs : (ts : List Ty) → HT E.S ts → List Value → List Nat → Prop
  | [], _, vs, fp => vs = [] ∧ fp = []
  | t :: ts, h, vs, fp => ∃ v r f1 f2, vs = v :: r ∧ fp = f1 ++ f2 ∧ OwnE E W F t h.1 v f1 ∧ OwnEs ts h.2 r f2
def RoVs : (ts : List Ty) → HT E.S ts → List Value → Prop
  | [], _, vs => vs = []
  | t :: ts, h, vs => ∃ v r, vs = v :: r ∧ RoV E W F t h.1 v ∧ RoVs ts h.2 r
def BoxV (n : Nat) (x : E.S n) (v : Value) (fp : List Nat) : Prop :=
  ∃ (g : Nat) (vs : List Value) (f : List Nat), v = .pointer (some ⟨g, 0, none⟩) ∧ W.heap[g]? = some (.cells vs.toArray n (0, 0)) ∧ OwnL E W F (E.fl n) (E.opn n x) vs f ∧ fp = g :: f
def InP : (p : Par) → p.I E → Value → List Nat → Prop
  | .val t, x, v, fp => RoV E W F t x v ∧ fp = []
  | .mut t, x, v, fp => OwnE E W F t x v fp
  | .box n, x, v, fp => BoxV E W F n x v fp
  | .clo f caps, x, v, fp => (∃ ws : List Value, v = .func (.func f) #[] ws.toArray ∧ RoVs E W F caps x ws) ∧ fp = []
def InPs : (ps : List Par) → IT E ps → List Value → List Nat → Prop
  | [], _, vs, fp => vs = [] ∧ fp = []
  | p :: ps, h, vs, fp => ∃ v r f1 f2, vs = v :: r ∧ fp = f1 ++ f2 ∧ InP E W F p h.1 v f1 ∧ InPs ps h.2 r f2
def OutP : (p : Par) → p.O E → Value → List Nat → Prop
  | .val t, x, v, fp => fp = []
  | .mut t, x, v, fp => OwnE E W F t x v fp
  | .box n, x, v, fp => BoxV E W F n x v fp
  | .clo f caps, x, v, fp => fp = []
def OutPs : (ps : List Par) → OT E ps → List Value → List Nat → Prop
  | [], _, vs, fp => vs = [] ∧ fp = []
  | p :: ps, h, vs, fp => ∃ v r f1 f2, vs = v :: r ∧ fp = f1 ++ f2 ∧ OutP E W F p h.1 v f1 ∧ OutPs ps h.2 r f2
end
def tupV : List Value → Value
  | [v] => v
  | vs => .tuple vs.toArray
/-- What a call leaves. -/
structure Left (E : Env) (s : Spec E) (r : s.R) (W : World) (F : Nat → Prop) (args : List Value) (fpM : List Nat) (v : Value) (W' : World) : Prop where
  ex : ∃ (F' : Nat → Prop) (vs : List Value) (fpR fpO : List Nat), v = tupV vs ∧ (∀ b, F b → F' b) ∧ (∀ b, F' b → (F b ∨ W.heap.size ≤ b ∨ b ∈ fpM) ∧ b < W'.heap.size) ∧
    (if s.own then OwnEs E W' F' s.rs (s.res r) vs fpR else (RoVs E W' F' s.rs (s.res r) vs ∧ fpR = [])) ∧ OutPs E W' F' s.ps (s.out r) args fpO ∧
    (fpR ++ fpO).Nodup ∧ (∀ b ∈ fpR ++ fpO, ¬ F' b ∧ (b ∈ fpM ∨ W.heap.size ≤ b))
  os : W'.os = W.os
  tape : W'.tape = W.tape
  output : W'.output = W.output
  size : W.heap.size ≤ W'.heap.size
  block : ∀ b, b < W.heap.size → b ∉ fpM → W'.heap[b]? = W.heap[b]?
/-- A function does what its specification says. -/
def Callee (P : Program) (f : FuncId) : Prop := ∀ args W, (callFunc f args).run P W = .ok (.enter f args) W
def Sound (P : Program) (E : Env) (f : FuncId) (s : Spec E) : Prop :=
  Callee P f ∧ ∀ (W : World) (F : Nat → Prop) (x : IT E s.ps) (r : s.R) (args : List Value) (fpM : List Nat), s.fn x = some r → InPs E W F s.ps x args fpM → fpM.Nodup → (∀ b ∈ fpM, ¬ F b) → (∀ b, F b → b < W.heap.size) →
    Calls P f args.toArray W fun e W' => ∃ v, e = .returned v ∧ Left E s r W F args fpM v W'

/-! ### The caller's side: arguments -/
theorem OwnL.ext {W W' : World} {F F' : Nat → Prop} (hF : ∀ b, F b → F' b) (hW : ∀ b, F b → W'.heap[b]? = W.heap[b]?) {fp : List Nat} (hfp : ∀ b ∈ fp, W'.heap[b]? = W.heap[b]?) : ∀ {ts : List Ty} {h : HT E.S ts} {vs : List Value}, OwnL E W F ts h vs fp → OwnL E W' F' ts h vs fp := by
  intro ts
  induction ts generalizing fp with
  | nil => intro h vs hh; exact hh
  | cons t ts ih =>
    rintro h vs ⟨v, r, f1, f2, hv, rfl, ha, hr⟩
    refine ⟨v, r, f1, f2, hv, rfl, ?_, ih (fun b hb => hfp b (by simp [hb])) hr⟩
    cases t with
    | slice e t =>
      rcases ha with ha | ⟨g, cap, cur, d, h1, h2, h3, h4, h5, h6, h7, h8⟩
      · exact .inl ha
      · exact .inr ⟨g, cap, cur, d, h1, h2, h3, by rw [hfp g (by simp [h2])]; exact h4, h5, h6, h7, fun i hi => (h8 i hi).mono fun t x v => RoA.more hF hW d d (Nat.le_refl _) t x v⟩
    | _ => exact ha
theorem OwnA.ext {W W' : World} {F F' : Nat → Prop} (hF : ∀ b, F b → F' b) (hW : ∀ b, F b → W'.heap[b]? = W.heap[b]?) {fp : List Nat} (hfp : ∀ b ∈ fp, W'.heap[b]? = W.heap[b]?) {t : Ty} {x : Ty.D E.S t} {v : Value} (h : OwnA E W F t x v fp) : OwnA E W' F' t x v fp := by
  have := OwnL.ext (E := E) hF hW hfp (ts := [t]) (h := (x, ())) (vs := [v]) ⟨v, [], fp, [], rfl, by simp, h, rfl, rfl⟩
  obtain ⟨v', r, f1, f2, hv, hfp', ha, hr1, hr2⟩ := this
  cases hv
  subst hr2
  rw [List.append_nil] at hfp'
  subst hfp'
  exact ha
/-- A row of the state's, as a value that owns it. -/
theorem row_own (hS : Sim cx G S tm W) {F : Nat → Prop} (hF : ∀ b, G.F b → F b) {id : Nat} {e : Nat} {t : Ty} {xs : List (Ty.D E.S t)} {f : Bool} (hb : S.h id = some (.row e t xs f)) : ∃ fp, OwnA E W F (.slice e t) xs (G.hd id) fp ∧ (∀ k, k ∈ fp ↔ Occ G id (.row e t xs f : Blk E) k) ∧ fp.length ≤ 1 := by
  obtain ⟨b1, b2, b3, hrow⟩ := hS.blks id _ hb
  rcases hrow with ⟨A, hA, hnil⟩ | ⟨cap, cur, d, hhd, hcap, hh, hlen, hmax, hcur, hel⟩
  · exact ⟨[], .inl ⟨A, hA, hnil, rfl⟩, fun k => ⟨fun h => (by cases h), fun h => (by have := h.2; rw [hA] at this; simp [capOf] at this)⟩, by simp⟩
  · refine ⟨[G.loc id], .inr ⟨G.loc id, cap, cur, d, hhd, rfl, hcap, hh, hlen, hmax, hcur, fun i hi => (hel i hi).mono fun t x v => RoA.more hF (fun _ _ => rfl) d d (Nat.le_refl _) t x v⟩, fun k => ⟨fun h => ?_, fun h => ?_⟩, by simp⟩
    · rw [List.mem_singleton] at h; exact ⟨h, by rw [hhd]; exact hcap⟩
    · rw [List.mem_singleton]; exact h.1
/-- The blocks of rows by their numbers. -/
def BlksOf (G : Gh) (S : St E) (ids : List Nat) (fp : List Nat) : Prop := ∀ k, k ∈ fp ↔ ∃ id ∈ ids, ∃ b, S.h id = some b ∧ Occ G id b k
theorem BlksOf.nil : BlksOf G S [] [] := fun k => by simp
theorem BlksOf.app {i1 i2 f1 f2 : List Nat} (h : BlksOf G S i1 f1) (k : BlksOf G S i2 f2) : BlksOf G S (i1 ++ i2) (f1 ++ f2) := by
  intro b
  rw [List.mem_append, h b, k b]
  constructor
  · rintro (⟨id, hi, r⟩ | ⟨id, hi, r⟩)
    · exact ⟨id, by simp [hi], r⟩
    · exact ⟨id, by simp [hi], r⟩
  · rintro ⟨id, hi, r⟩
    rcases List.mem_append.1 hi with hi | hi
    · exact .inl ⟨id, hi, r⟩
    · exact .inr ⟨id, hi, r⟩
theorem nodupB_iff : ∀ {l : List Nat}, nodupB l = true → l.Nodup
  | [], _ => List.nodup_nil
  | x :: l, h => by
    simp only [nodupB, Bool.and_eq_true, Bool.not_eq_true'] at h
    refine List.nodup_cons.2 ⟨fun hx => ?_, nodupB_iff h.2⟩
    have : l.any (Nat.beq x) = true := List.any_eq_true.2 ⟨x, hx, Nat.beq_refl x⟩
    rw [this] at h; cases h.1
theorem ownAll_sound (hS : Sim cx G S tm W) {F : Nat → Prop} (hF : ∀ b, G.F b → F b) : ∀ {ts : List Ty} {xs : List (At E)} {vs : List Value} {l1 l2 l3 l4 : List Nat} {d : HT E.S ts} {m : List Nat}, AtsR G S.k W xs vs → RM.Out S.h (ofAts E ts xs) l1 d l2 → RM.Out S.h (ownAll xs) l3 m l4 →
    ∃ fp, OwnL E W F ts d vs fp ∧ BlksOf G S m fp ∧ (m.Nodup → fp.Nodup) ∧ (∀ i ∈ m, ∃ e t ys, S.h i = some (.row e t ys false))
  | [], [], _, _, _, _, _, d, m, hr, h1, h2 => by
    rw [AtsR] at hr
    obtain rfl := h2.1
    exact ⟨[], ⟨hr, rfl⟩, BlksOf.nil, fun _ => List.nodup_nil, fun i hi => by cases hi⟩
  | [], _ :: _, _, _, _, _, _, _, _, _, h1, _ => h1.elim
  | _ :: _, [], _, _, _, _, _, _, _, _, h1, _ => h1.elim
  | t :: ts, x :: xs, vs, l1, l2, l3, l4, d, m, ⟨v, r, hv, ha, hr⟩, h1, h2 => by
    obtain ⟨y, l5, h3, h1⟩ := RM.Out_bind h1
    obtain ⟨z, l6, h4, h1⟩ := RM.Out_bind h1
    obtain rfl := h1.1
    have scalar : RM.Out S.h (ownAll xs) l3 m l4 → OwnA E W F t y v [] → ∃ fp, OwnL E W F (t :: ts) (y, z) vs fp ∧ BlksOf G S m fp ∧ (m.Nodup → fp.Nodup) ∧ (∀ i ∈ m, ∃ e t ys, S.h i = some (.row e t ys false)) := by
      intro hx ho
      obtain ⟨fp, i1, i2, i3, i4⟩ := ownAll_sound hS hF hr h4 hx
      exact ⟨fp, ⟨v, r, [], fp, hv, rfl, ho, i1⟩, i2, i3, i4⟩
    cases x with
    | int k n =>
      refine scalar h2 ?_
      cases t <;> try exact h3.elim
      rename_i k'
      have hb' := RM.Out_bif h3; clear h3; obtain ⟨hk, h3⟩ := hb'
      obtain rfl := ikEq_eq hk
      obtain rfl := h3.1
      exact ⟨ha, rfl⟩
    | bool b =>
      refine scalar h2 ?_
      cases t <;> try exact h3.elim
      obtain rfl := h3.1
      exact ⟨ha, rfl⟩
    | str s =>
      refine scalar h2 ?_
      cases t <;> try exact h3.elim
      obtain rfl := h3.1
      exact ⟨ha, rfl⟩
    | nils =>
      refine scalar h2 ?_
      cases t <;> try exact h3.elim
      obtain rfl := h3.1
      obtain ⟨A, hv⟩ := ha
      exact .inl ⟨A, hv, rfl, rfl⟩
    | own id =>
      obtain ⟨b, hb, h2⟩ := h2
      dsimp only at h2
      split at h2
      · rename_i e' t' ys
        obtain ⟨m', l7, h5, h2⟩ := RM.Out_bind h2
        obtain rfl := h2.1
        obtain ⟨fp, i1, i2, i3, i4⟩ := ownAll_sound hS hF hr h4 h5
        cases t <;> try exact h3.elim
        rename_i e t
        obtain ⟨b', hb', h3⟩ := h3
        rw [hb] at hb'
        cases hb'
        obtain ⟨rfl, rfl, rfl⟩ := castR_sound h3
        obtain ⟨f1, j1, j2, j3⟩ := row_own hS hF hb
        refine ⟨f1 ++ fp, ⟨v, r, f1, fp, hv, rfl, by rw [ha.2.1]; exact j1, i1⟩, ?_, fun hn => ?_, fun i hi => ?_⟩
        · have : BlksOf G S [id] f1 := fun k => by
            rw [j2 k]
            refine ⟨fun h => ⟨id, by simp, _, hb, h⟩, ?_⟩
            rintro ⟨i, hi, b, hb2, ho⟩
            rw [List.mem_singleton] at hi
            subst hi
            rw [hb] at hb2
            cases hb2
            exact ho
          exact this.app i2
        · obtain ⟨hn1, hn2⟩ := List.nodup_cons.1 hn
          refine List.nodup_append.2 ⟨?_, i3 hn2, fun a ha b hb2 hab => ?_⟩
          · match f1, j3 with
            | [], _ => exact List.nodup_nil
            | [x], _ => simp
            | _ :: _ :: _, h => simp at h
          · subst hab
            obtain ⟨i, hi, b, hb3, ho⟩ := (i2 a).1 hb2
            have := hS.inj id i _ b a hb hb3 ((j2 a).1 ha) ho
            subst this
            exact hn1 hi
        · rcases List.mem_cons.1 hi with rfl | hi
          · exact ⟨_, _, _, hb⟩
          · exact i4 i hi
      · exact h2.elim
    | _ => exact h2.elim
end Mir
