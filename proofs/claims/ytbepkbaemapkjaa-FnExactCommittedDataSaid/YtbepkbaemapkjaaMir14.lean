/- The mirror machine: what a function's specification says. -/
import Derived.Test.YtbepkbaemapkjaaMir13
namespace Mir
set_option linter.unusedVariables false
set_option linter.unusedSimpArgs false
open Go
variable {E : Env} {P : Program} {T : Tb} {cx : Cx} {G G' : Gh} {S : St E} {tm : Array Value} {a : Act} {W W' : World}

/-! ### Values that own their rows -/
section
variable (E) (W : World) (F : Nat → Prop)
/-- A row of its own, whose elements' rows are read. -/
def ShA (e : Nat) (t : Ty) (xs : List (Ty.D E.S t)) (v : Value) (fp : List Nat) : Prop := (∃ A, v = .slice A 0 0 ∧ xs = [] ∧ fp = []) ∨
  ∃ g cap cur d, v = .slice (some ⟨g, 0, none⟩) xs.length cap ∧ fp = [g] ∧ 0 < cap ∧ CellsAt W g cur e ∧ xs.length ≤ cap ∧ cap ≤ maxLen ∧ cap * tsz E t ≤ cur.size ∧
    ∀ (i : Nat) (hi : i < xs.length), RoE E (RoA E W F d) t xs[i] ((cur.toList.drop (i * tsz E t)).take (tsz E t))
/-- A row of its own; deep: its elements' rows too. -/
def RwA (deep : Bool) (e : Nat) (t : Ty) (xs : List (Ty.D E.S t)) (v : Value) (fp : List Nat) : Prop := match deep with
  | true => fp.Nodup ∧ ∃ d, DeepA E W d (.slice e t) xs v fp
  | false => ShA E W F e t xs v fp
def OwnA (dp : Bool) : (t : Ty) → Ty.D E.S t → Value → List Nat → Prop
  | .int k, x, v, fp => v = .int k x ∧ fp = []
  | .bool, x, v, fp => v = .bool x ∧ fp = []
  | .str, x, v, fp => v = .string x ∧ fp = []
  | .slice e t, xs, v, fp => RwA E W F (dp && !t.flat1 E) e t xs v fp
  | .st _, _, _, _ => False
  | .arr _ _, _, _, _ => False
  | .pbx _ _, _, _, _ => False
  | .rsl e t, xs, v, fp => (∃ d, RoA E W F d (.slice e t) xs v) ∧ fp = []
def OwnL (dp : Bool) : (ts : List Ty) → HT E.S ts → List Value → List Nat → Prop
  | [], _, vs, fp => vs = [] ∧ fp = []
  | t :: ts, h, vs, fp => ∃ v r f1 f2, vs = v :: r ∧ fp = f1 ++ f2 ∧ OwnA E W F dp t h.1 v f1 ∧ OwnL dp ts h.2 r f2
def OwnE (dp : Bool) : (t : Ty) → Ty.D E.S t → Value → List Nat → Prop
  | .st n, x, w, fp => ∃ vs : List Value, w = .agg vs.toArray ∧ OwnL E W F dp (E.fl n) (E.opn n x) vs fp
  | .arr k n, x, w, fp => (x.length = n ∧ w = .agg (x.map (Value.int k)).toArray) ∧ fp = []
  | .int k, x, w, fp => OwnA E W F dp (.int k) x w fp
  | .bool, x, w, fp => OwnA E W F dp .bool x w fp
  | .str, x, w, fp => OwnA E W F dp .str x w fp
  | .slice e t, x, w, fp => OwnA E W F dp (.slice e t) x w fp
  | .rsl e t, x, w, fp => OwnA E W F dp (.rsl e t) x w fp
  | .pbx b n, x, v, fp => ∃ (g : Nat) (vs : List Value) (f : List Nat), v = .pointer (some ⟨g, 0, none⟩) ∧ W.heap[g]? = some (.cells vs.toArray b (0, 0)) ∧ OwnL E W F dp (E.fl n) (E.opn n x) vs f ∧ fp = g :: f
def RoV : (t : Ty) → Ty.D E.S t → Value → Prop
  | .st n, x, w => ∃ (vs : List Value) (d : Nat), w = .agg vs.toArray ∧ RoL E (RoA E W F d) (E.fl n) (E.opn n x) vs
  | .arr k n, x, w => x.length = n ∧ w = .agg (x.map (Value.int k)).toArray
  | .pbx _ _, _, _ => True
  | t, x, w => ∃ d, RoA E W F d t x w
def OwnEs (dp : Bool) : (ts : List Ty) → HT E.S ts → List Value → List Nat → Prop
  | [], _, vs, fp => vs = [] ∧ fp = []
  | t :: ts, h, vs, fp => ∃ v r f1 f2, vs = v :: r ∧ fp = f1 ++ f2 ∧ OwnE E W F dp t h.1 v f1 ∧ OwnEs dp ts h.2 r f2
def RoVs : (ts : List Ty) → HT E.S ts → List Value → Prop
  | [], _, vs => vs = []
  | t :: ts, h, vs => ∃ v r, vs = v :: r ∧ RoV E W F t h.1 v ∧ RoVs ts h.2 r
def BoxV (dp : Bool) (b n : Nat) (x : E.S n) (v : Value) (fp : List Nat) : Prop :=
  ∃ (g : Nat) (vs : List Value) (f : List Nat), v = .pointer (some ⟨g, 0, none⟩) ∧ W.heap[g]? = some (.cells vs.toArray b (0, 0)) ∧ OwnL E W F dp (E.fl n) (E.opn n x) vs f ∧ fp = g :: f
/-- A pointer to data that are read. -/
def RoP (t : Ty) (x : Ty.D E.S t) (v : Value) : Prop :=
  ∃ (g : Nat) (vs : List Value) (d : Nat), v = .pointer (some ⟨g, 0, none⟩) ∧ RoE E (RoA E W F d) t x vs ∧ (0 < vs.length → F g) ∧ ∀ (j : Nat) (hj : j < vs.length), W.cell? ⟨g, j, none⟩ = some vs[j]
def CapP : (c : Cap) → c.I E → Value → Prop
  | .rb t, x, v => RoP E W F t x v
  | .rpp t, x, v => ∃ (g : Nat) (w : Value), v = .pointer (some ⟨g, 0, none⟩) ∧ F g ∧ W.cell? ⟨g, 0, none⟩ = some w ∧ RoP E W F t x w
def CapPs : (cs : List Cap) → CT E cs → List Value → Prop
  | [], _, vs => vs = []
  | c :: cs, h, vs => ∃ v r, vs = v :: r ∧ CapP E W F c h.1 v ∧ CapPs cs h.2 r
def InP : (p : Par) → p.I E → Value → List Nat → Prop
  | .val t, x, v, fp => RoV E W F t x v ∧ fp = []
  | .mut dp t, x, v, fp => OwnE E W F dp t x v fp
  | .mov dp t, x, v, fp => OwnE E W F dp t x v fp
  | .box dp b n, x, v, fp => BoxV E W F dp b n x v fp
  | .movb dp b n, x, v, fp => BoxV E W F dp b n x v fp
  | .clo f caps, x, v, fp => (∃ ws : List Value, v = .func (.func f) #[] ws.toArray ∧ CapPs E W F caps x ws) ∧ fp = []
  | .cap c, x, v, fp => CapP E W F c x v ∧ fp = []
def InPs : (ps : List Par) → IT E ps → List Value → List Nat → Prop
  | [], _, vs, fp => vs = [] ∧ fp = []
  | p :: ps, h, vs, fp => ∃ v r f1 f2, vs = v :: r ∧ fp = f1 ++ f2 ∧ InP E W F p h.1 v f1 ∧ InPs ps h.2 r f2
def OutP : (p : Par) → p.O E → Value → List Nat → Prop
  | .mut dp t, x, v, fp => OwnE E W F dp t x v fp
  | .box dp b n, x, v, fp => BoxV E W F dp b n x v fp
  | .val _, _, _, fp => fp = []
  | .clo _ _, _, _, fp => fp = []
  | .cap _, _, _, fp => fp = []
  | .mov _ _, _, _, fp => fp = []
  | .movb _ _ _, _, _, fp => fp = []
def OutPs : (ps : List Par) → OT E ps → List Value → List Nat → Prop
  | [], _, vs, fp => vs = [] ∧ fp = []
  | p :: ps, h, vs, fp => ∃ v r f1 f2, vs = v :: r ∧ fp = f1 ++ f2 ∧ OutP E W F p h.1 v f1 ∧ OutPs ps h.2 r f2
end
def tupV : List Value → Value
  | [v] => v
  | vs => .tuple vs.toArray
/-- What a call leaves. -/
structure Left (E : Env) (s : Spec E) (r : s.R) (W : World) (F : Nat → Prop) (args : List Value) (fpM : List Nat) (v : Value) (W' : World) : Prop where
  ex : ∃ (F' : Nat → Prop) (vs : List Value) (fpR fpO : List Nat), v = tupV vs ∧ (∀ b, F b → F' b) ∧ (∀ b, F' b → (F b ∨ W.heap.size ≤ b ∨ b ∈ fpM) ∧ b < W'.heap.size) ∧
    (if s.own then OwnEs E W' F' s.dp s.rs (s.res r) vs fpR else (RoVs E W' F' s.rs (s.res r) vs ∧ fpR = [])) ∧ OutPs E W' F' s.ps (s.out r) args fpO ∧
    (fpR ++ fpO).Nodup ∧ (∀ b ∈ fpR ++ fpO, ¬ F' b ∧ (b ∈ fpM ∨ W.heap.size ≤ b))
  os : W'.os = W.os
  tape : W'.tape = W.tape
  output : W'.output = W.output
  size : W.heap.size ≤ W'.heap.size
  block : ∀ b, b < W.heap.size → b ∉ fpM → W'.heap[b]? = W.heap[b]?
/-- A function does what its specification says. -/
def Callee (P : Program) (f : FuncId) : Prop := ∀ args W, (callFunc f args).run P W = .ok (.enter f args) W
def Sound (P : Program) (E : Env) (f : FuncId) (s : Spec E) : Prop :=
  Callee P f ∧ ∀ (W : World) (F : Nat → Prop) (x : IT E s.ps) (r : s.R) (args : List Value) (fpM : List Nat), s.fn x = some r → InPs E W F s.ps x args fpM → fpM.Nodup → (∀ b ∈ fpM, ¬ F b) → (∀ b, F b → b < W.heap.size) →
    Calls P f args.toArray W fun e W' => ∃ v, e = .returned v ∧ Left E s r W F args fpM v W'

/-! ### The caller's side: arguments -/
/-- The blocks of rows by their numbers. -/
def BlksOf (G : Gh) (S : St E) (ids : List Nat) (fp : List Nat) : Prop := ∀ k, k ∈ fp → ∃ id ∈ ids, ∃ b, S.h id = some b ∧ Occ G id b k
theorem BlksOf.nil {ids : List Nat} : BlksOf G S ids [] := fun k h => by cases h
theorem BlksOf.app {i1 i2 f1 f2 : List Nat} (h : BlksOf G S i1 f1) (k : BlksOf G S i2 f2) : BlksOf G S (i1 ++ i2) (f1 ++ f2) := by
  intro b hb
  rcases List.mem_append.1 hb with hb | hb
  · obtain ⟨id, hi, r⟩ := h b hb; exact ⟨id, by simp [hi], r⟩
  · obtain ⟨id, hi, r⟩ := k b hb; exact ⟨id, by simp [hi], r⟩
theorem BlksOf.disj (hS : Sim cx G S tm W) {m1 m2 f1 f2 : List Nat} (h1 : BlksOf G S m1 f1) (h2 : BlksOf G S m2 f2) (hd : ∀ i ∈ m1, i ∉ m2) : ∀ k ∈ f1, k ∉ f2 := by
  intro k hk hk2
  obtain ⟨i, hi, b, hb, ho⟩ := h1 k hk
  obtain ⟨j, hj, c, hc, ho'⟩ := h2 k hk2
  exact hd i hi (hS.inj i j b c k hb hc ho ho' ▸ hj)
theorem BlksOf.nodup (hS : Sim cx G S tm W) {m1 m2 f1 f2 : List Nat} (h1 : BlksOf G S m1 f1) (h2 : BlksOf G S m2 f2) (n1 : m1.Nodup → f1.Nodup) (n2 : m2.Nodup → f2.Nodup) (h : (m1 ++ m2).Nodup) : (f1 ++ f2).Nodup := by
  obtain ⟨a, b, c⟩ := List.nodup_append.1 h
  exact List.nodup_append.2 ⟨n1 a, n2 b, fun x hx y hy e => h1.disj hS h2 (fun i hi hj => c i hi i hj rfl) x hx (e ▸ hy)⟩
theorem nodupB_iff : ∀ {l : List Nat}, nodupB l = true → l.Nodup
  | [], _ => List.nodup_nil
  | x :: l, h => by
    simp only [nodupB, Bool.and_eq_true, Bool.not_eq_true'] at h
    refine List.nodup_cons.2 ⟨fun hx => ?_, nodupB_iff h.2⟩
    have : l.any (Nat.beq x) = true := List.any_eq_true.2 ⟨x, hx, Nat.beq_refl x⟩
    rw [this] at h; cases h.1
/-- What is handed over: the blocks, by numbers; they may be written. -/
structure Hand (G : Gh) (S : St E) (m fp : List Nat) : Prop where
  blks : BlksOf G S m fp
  nodup : m.Nodup → fp.Nodup
  wr : ∀ i ∈ m, ∃ b, S.h i = some b ∧ b.fz = false
theorem Hand.nil : Hand G S [] [] := ⟨BlksOf.nil, fun _ => List.nodup_nil, fun i hi => by cases hi⟩
theorem Hand.app (hS : Sim cx G S tm W) {m1 m2 f1 f2 : List Nat} (h : Hand G S m1 f1) (k : Hand G S m2 f2) : Hand G S (m1 ++ m2) (f1 ++ f2) :=
  ⟨h.blks.app k.blks, fun hn => h.blks.nodup hS k.blks h.nodup k.nodup hn, fun i hi => by
    rcases List.mem_append.1 hi with hi | hi
    · exact h.wr i hi
    · exact k.wr i hi⟩
theorem Hand.one {id : Nat} {b : Blk E} {fp : List Nat} (hb : S.h id = some b) (hz : b.fz = false) (hn : fp.Nodup) (ho : ∀ k ∈ fp, Occ G id b k) : Hand G S [id] fp :=
  ⟨fun k hk => ⟨id, by simp, b, hb, ho k hk⟩, fun _ => hn, fun i hi => by rw [List.mem_singleton] at hi; subst hi; exact ⟨b, hb, hz⟩⟩
/-- A row of the state's, as a value that owns it. -/
theorem row_own (hS : Sim cx G S tm W) {F : Nat → Prop} (hF : ∀ b, G.F b → F b) {id : Nat} {e : Nat} {t : Ty} {xs : List (Ty.D E.S t)} (hb : S.h id = some (.row e t xs false)) : ∃ fp, ShA E W F e t xs (G.hd id) fp ∧ Hand G S [id] fp := by
  obtain ⟨b1, b2, b3, hrow⟩ := hS.blks id _ hb
  rcases hrow with ⟨A, hA, hnil⟩ | ⟨cap, cur, d, hhd, hcap, hh, hlen, hmax, hcur, hel⟩
  · exact ⟨[], .inl ⟨A, hA, hnil, rfl⟩, Hand.one hb rfl List.nodup_nil (fun k h => by cases h)⟩
  · refine ⟨[G.loc id], .inr ⟨G.loc id, cap, cur, d, hhd, rfl, hcap, hh, hlen, hmax, hcur, fun i hi => (hel i hi).mono fun t x v => RoA.more hF (fun _ _ => rfl) d d (Nat.le_refl _) t x v⟩, Hand.one hb rfl (by simp) fun k h => ?_⟩
    rw [List.mem_singleton] at h; exact ⟨h, by rw [hhd]; exact hcap⟩
theorem drow_own (hS : Sim cx G S tm W) {id : Nat} {e : Nat} {t : Ty} {xs : List (Ty.D E.S t)} {hid : Nat} (hb : S.h id = some (.drow e t xs hid)) : ∃ fp, (fp.Nodup ∧ ∃ d, DeepA E W d (.slice e t) xs (G.hd id) fp) ∧ Hand G S [id] fp := by
  obtain ⟨b0, b1, b2, b3, hrow⟩ := hS.blks id _ hb
  rcases hrow with ⟨A, hA, hnil, _⟩ | ⟨cap, cur, d, fps, hhd, hcap, hh, hlen, hmax, hcur, hfp, hnd, hr, _⟩
  · exact ⟨[], ⟨List.nodup_nil, 1, .inl ⟨A, hA, hnil, rfl⟩⟩, Hand.one hb rfl List.nodup_nil (fun k h => by cases h)⟩
  · refine ⟨G.loc id :: fps.flatten, ⟨hnd, d + 1, .inr ⟨G.loc id, cap, cur, fps, hhd, rfl, hcap, hh, hlen, hmax, hcur, hr⟩⟩, Hand.one hb rfl hnd fun k h => ?_⟩
    rcases List.mem_cons.1 h with rfl | h
    · exact .inl ⟨rfl, by rw [hhd]; exact hcap⟩
    · exact .inr (by rw [hfp]; exact h)
theorem ownAt_sound (hS : Sim cx G S tm W) {F : Nat → Prop} (hF : ∀ b, G.F b → F b) {sb dp : Bool} {t : Ty} {x : At E} {v : Value} {l1 l2 l3 l4 : List Nat} {d : Ty.D E.S t} {m : List Nat} (hx : AtR G S.k W x v) (h1 : RM.Out S.h (ofAt E t x) l1 d l2) (h2 : RM.Out S.h (ownAt E sb dp t x) l3 m l4) :
    ∃ fp, OwnA E W F dp t d v fp ∧ Hand G S m fp := by
  unfold ownAt at h2
  split at h2
  · rename_i e t e' t' xs
    obtain rfl := h2.1
    obtain ⟨n, hn⟩ := ofAt_sound (t := .rsl e t) hS hF hx trivial h1
    exact ⟨[], ⟨⟨n, RoA_rsl.1 hn⟩, rfl⟩, Hand.nil⟩
  · rename_i e t
    obtain rfl := h2.1
    obtain ⟨n, hn⟩ := ofAt_sound (t := .rsl e t) hS hF hx trivial h1
    exact ⟨[], ⟨⟨n, RoA_rsl.1 hn⟩, rfl⟩, Hand.nil⟩
  · rename_i e t id
    obtain ⟨b, hb, h2⟩ := h2
    obtain ⟨b', hb', h1⟩ := h1
    rw [hb] at hb'; cases hb'
    dsimp only at h1 h2
    split at h2
    · rename_i e' t' xs
      have hb' := RM.Out_bif h2; clear h2; obtain ⟨hc, h2⟩ := hb'
      obtain rfl := h2.1
      obtain ⟨rfl, rfl, rfl⟩ := castR_sound h1
      have hsh : (dp && !t'.flat1 E) = false := by cases dp <;> simp_all
      obtain ⟨fp, j1, j2⟩ := row_own hS hF hb
      exact ⟨fp, by show RwA E W F (dp && !t'.flat1 E) _ _ _ _ _; rw [hsh, hx.2.1]; exact j1, j2⟩
    · rename_i e' t' xs hid
      have hb' := RM.Out_bif h2; clear h2; obtain ⟨hc, h2⟩ := hb'
      obtain rfl := h2.1
      obtain ⟨rfl, rfl, rfl⟩ := castR_sound h1
      obtain ⟨fp, j1, j2⟩ := drow_own hS hb
      exact ⟨fp, by show RwA E W F (dp && !t'.flat1 E) _ _ _ _ _; rw [hc, hx.2.1]; exact j1, j2⟩
    · exact h2.elim
  · rename_i e t id off len
    obtain ⟨b, hb, h2⟩ := h2
    obtain ⟨b', hb', h1⟩ := h1
    rw [hb] at hb'; cases hb'
    dsimp only at h1 h2
    split at h2
    · rename_i e' t' xs
      have hb' := RM.Out_bif h2; clear h2; obtain ⟨hc, h2⟩ := hb'
      obtain rfl := h2.1
      obtain ⟨hle, h1⟩ := h1
      simp only [decide_eq_true_eq] at hle
      obtain ⟨rfl, rfl, rfl⟩ := castR_sound h1
      simp only [Bool.and_eq_true] at hc
      obtain rfl := Nat.eq_of_beq_eq_true hc.1.2
      have hsh : (dp && !t'.flat1 E) = false := by cases dp <;> simp_all
      obtain ⟨b1, b2, b3, hrow⟩ := hS.blks id _ hb
      obtain ⟨hk, hol, A, c, hv, hlc, hA⟩ := hx
      have hl : ((xs.drop 0).take len).length = len := by simp; omega
      rcases Nat.eq_zero_or_pos c with h0 | h0
      · subst h0
        have hl0 : len = 0 := by omega
        subst hl0
        exact ⟨[], by show RwA E W F (dp && !t'.flat1 E) _ _ _ _ _; rw [hsh]; exact .inl ⟨A, hv, by simp, rfl⟩, Hand.one hb rfl List.nodup_nil (fun k h => by cases h)⟩
      · obtain ⟨hA1, hA2⟩ := hA h0
        rcases hrow with ⟨A', hA', hnil⟩ | ⟨cap, cur, d, hhd, hcap, hh, hlen, hmax, hcur, hel⟩
        · rw [hA'] at hA2; simp [capOf] at hA2; omega
        · rw [hhd] at hA2
          have hA2 : c ≤ cap := by simpa [capOf] using hA2
          have hsz : c * tsz E t' ≤ cap * tsz E t' := Nat.mul_le_mul_right _ hA2
          refine ⟨[G.loc id], ?_, Hand.one hb rfl (by simp) fun k h => ?_⟩
          · show RwA E W F (dp && !t'.flat1 E) _ _ _ _ _
            rw [hsh]
            refine .inr ⟨G.loc id, c, cur, d, by rw [hl, hv, hA1]; simp, rfl, h0, hh, by rw [hl]; exact hlc, by omega, by omega, fun i hi => ?_⟩
            have hi' : i < xs.length := by rw [hl] at hi; omega
            have := (hel i hi').mono fun t x v => RoA.more hF (fun _ _ => rfl) d d (Nat.le_refl _) t x v
            simpa using this
          · rw [List.mem_singleton] at h; exact ⟨h, by rw [hhd]; exact hcap⟩
    · exact h2.elim
  · rename_i e t
    obtain rfl := h2.1
    obtain rfl := h1.1
    obtain ⟨A, hv⟩ := hx
    refine ⟨[], ?_, Hand.nil⟩
    show RwA E W F (dp && !t.flat1 E) _ _ _ _ _
    cases dp && !t.flat1 E with
    | true => exact ⟨List.nodup_nil, 1, .inl ⟨A, hv, rfl, rfl⟩⟩
    | false => exact .inl ⟨A, hv, rfl, rfl⟩
  · obtain rfl := h2.1
    have hb' := RM.Out_bif h1; clear h1; obtain ⟨hk, h1⟩ := hb'
    obtain rfl := ikEq_eq hk
    obtain rfl := h1.1
    exact ⟨[], ⟨hx, rfl⟩, Hand.nil⟩
  · obtain rfl := h2.1
    obtain rfl := h1.1
    exact ⟨[], ⟨hx, rfl⟩, Hand.nil⟩
  · obtain rfl := h2.1
    obtain rfl := h1.1
    exact ⟨[], ⟨hx, rfl⟩, Hand.nil⟩
  · exact h2.elim
theorem ownAll_sound (hS : Sim cx G S tm W) {F : Nat → Prop} (hF : ∀ b, G.F b → F b) {sb dp : Bool} : ∀ {ts : List Ty} {xs : List (At E)} {vs : List Value} {l1 l2 l3 l4 : List Nat} {d : HT E.S ts} {m : List Nat}, AtsR G S.k W xs vs → RM.Out S.h (ofAts E ts xs) l1 d l2 → RM.Out S.h (ownAll E sb dp ts xs) l3 m l4 →
    ∃ fp, OwnL E W F dp ts d vs fp ∧ Hand G S m fp
  | [], [], _, _, _, _, _, d, m, hr, h1, h2 => by
    rw [AtsR] at hr
    obtain rfl := h2.1
    exact ⟨[], ⟨hr, rfl⟩, Hand.nil⟩
  | [], _ :: _, _, _, _, _, _, _, _, _, h1, _ => h1.elim
  | _ :: _, [], _, _, _, _, _, _, _, _, h1, _ => h1.elim
  | t :: ts, x :: xs, vs, l1, l2, l3, l4, d, m, ⟨v, r, hv, ha, hr⟩, h1, h2 => by
    obtain ⟨y, l5, h3, h1⟩ := RM.Out_bind h1
    obtain ⟨z, l6, h4, h1⟩ := RM.Out_bind h1
    obtain rfl := h1.1
    obtain ⟨m1, l7, h5, h2⟩ := RM.Out_bind h2
    obtain ⟨m2, l8, h6, h2⟩ := RM.Out_bind h2
    obtain rfl := h2.1
    obtain ⟨f1, i1, i2⟩ := ownAt_sound hS hF ha h3 h5
    obtain ⟨f2, j1, j2⟩ := ownAll_sound hS hF hr h4 h6
    exact ⟨f1 ++ f2, ⟨v, r, f1, f2, hv, rfl, i1, j1⟩, i2.app hS j2⟩
theorem ownCv_sound (hS : Sim cx G S tm W) {F : Nat → Prop} (hF : ∀ b, G.F b → F b) {sb dp : Bool} {t : Ty} {v : Cv E} {w : Value} {l1 l2 l3 l4 : List Nat} {d : Ty.D E.S t} {m : List Nat} (hv : CvR G S.k W v w) (h1 : RM.Out S.h (ofCv E t v) l1 d l2) (h2 : RM.Out S.h (ownCv E sb dp t v) l3 m l4) :
    ∃ fp, OwnE E W F dp t d w fp ∧ Hand G S m fp := by
  cases v with
  | agg xs =>
    cases t with
    | st n =>
      obtain ⟨vs, rfl, hvs⟩ := hv
      obtain ⟨y, l5, h3, h1⟩ := RM.Out_bind h1
      obtain rfl := h1.1
      obtain ⟨fp, i1, i2⟩ := ownAll_sound hS hF hvs h3 h2
      exact ⟨fp, ⟨vs, rfl, by rw [E.opn_shut]; exact i1⟩, i2⟩
    | _ => exact h1.elim
  | arr k n xs =>
    cases t with
    | arr k' n' =>
      have hb' := RM.Out_bif h1; clear h1; obtain ⟨hc, h1⟩ := hb'
      simp only [Bool.and_eq_true] at hc
      obtain rfl := ikEq_eq hc.1
      obtain rfl := Nat.eq_of_beq_eq_true hc.2
      obtain rfl := h1.1
      obtain rfl := h2.1
      exact ⟨[], ⟨hv, rfl⟩, Hand.nil⟩
    | _ => exact h1.elim
  | «at» x =>
    cases t with
    | st n => exact h1.elim
    | arr k n => exact h1.elim
    | pbx b n =>
      cases x with
      | ptr id o =>
        cases o with
        | zero =>
          obtain ⟨c, hc, h1⟩ := h1
          have hb2 := RM.Out_bif h2; clear h2; obtain ⟨_, h2⟩ := hb2
          obtain ⟨c', hc', h2⟩ := h2
          rw [hc] at hc'; cases hc'
          cases c with
          | box t cells =>
            have hb' := RM.Out_bif h1; clear h1; obtain ⟨ht, h1⟩ := hb'
            obtain rfl := Nat.eq_of_beq_eq_true ht
            obtain ⟨y, l5, h3, h1⟩ := RM.Out_bind h1
            obtain rfl := h1.1
            obtain ⟨m1, l7, h5, h2⟩ := RM.Out_bind h2
            obtain rfl := h2.1
            obtain ⟨us, hus, hr⟩ := hS.blks id _ hc
            obtain ⟨f, i1, i2⟩ := ownAll_sound hS hF hr h3 h5
            have hself : Hand G S [id] [G.loc id] := Hand.one hc rfl (by simp) fun k hk => by rw [List.mem_singleton] at hk; exact hk
            exact ⟨G.loc id :: f, ⟨G.loc id, us, f, hv.2, hus, by rw [E.opn_shut]; exact i1, rfl⟩, hself.app hS i2⟩
          | _ => exact h1.elim
        | succ o => exact h1.elim
      | _ => exact h1.elim
    | _ => exact ownAt_sound hS hF hv h1 h2
theorem ownCvs_sound (hS : Sim cx G S tm W) {F : Nat → Prop} (hF : ∀ b, G.F b → F b) {dp : Bool} : ∀ {ts : List Ty} {vs : List (Cv E)} {ws : List Value} {l1 l2 l3 l4 : List Nat} {d : HT E.S ts} {m : List Nat}, CvsR G S.k W vs ws → RM.Out S.h (ofCvs E ts vs) l1 d l2 → RM.Out S.h (ownCvs E dp ts vs) l3 m l4 →
    ∃ fp, OwnEs E W F dp ts d ws fp ∧ Hand G S m fp
  | [], [], _, _, _, _, _, d, m, hr, _, h2 => by
    obtain rfl := h2.1
    exact ⟨[], ⟨hr, rfl⟩, Hand.nil⟩
  | [], _ :: _, _, _, _, _, _, _, _, _, h, _ => h.elim
  | _ :: _, [], _, _, _, _, _, _, _, _, h, _ => h.elim
  | t :: ts, v :: vs, _, _, _, _, _, d, m, ⟨w, r, hw, hv, hr⟩, h1, h2 => by
    obtain ⟨y, l5, h3, h1⟩ := RM.Out_bind h1
    obtain ⟨z, l6, h4, h1⟩ := RM.Out_bind h1
    obtain rfl := h1.1
    obtain ⟨m1, l7, h5, h2⟩ := RM.Out_bind h2
    obtain ⟨m2, l8, h6, h2⟩ := RM.Out_bind h2
    obtain rfl := h2.1
    obtain ⟨f1, i1, i2⟩ := ownCv_sound hS hF hv h3 h5
    obtain ⟨f2, j1, j2⟩ := ownCvs_sound hS hF hr h4 h6
    exact ⟨f1 ++ f2, ⟨w, r, f1, f2, hw, rfl, i1, j1⟩, i2.app hS j2⟩
theorem ofCv_rov (hS : Sim cx G S tm W) {F : Nat → Prop} (hF : ∀ b, G.F b → F b) {t : Ty} {v : Cv E} {w : Value} (hok : v.cells.all okAt = true) (hv : CvR G S.k W v w) (hi : ∀ x ∈ v.cells, InF G S F x) {l l' : List Nat} {d : Ty.D E.S t} (h : RM.Out S.h (ofCv E t v) l d l') : RoV E W F t d w := by
  by_cases hel : t.elemB = true
  · obtain ⟨n, hn⟩ := ofCv_sound hS hF hel hok hv hi h
    cases v with
    | agg xs =>
      cases t with
      | st m =>
        obtain ⟨vs, rfl, hvs⟩ := hv
        exact ⟨vs, n, rfl, by simpa [Value.cells, RoE] using hn⟩
      | _ => exact h.elim
    | arr k n xs => cases t <;> first | exact h.elim | cases hel
    | «at» x =>
      cases t with
      | st n => exact h.elim
      | arr k n => cases hel
      | pbx b n => cases hel
      | _ =>
        obtain ⟨v', hv', hr⟩ := hn
        have hone : w.cells.toList = [w] := by
          have := AtR.one (K := S.k) hv (by simpa [Cv.cells] using hok)
          cases w <;> first | rfl | (simp [Value.oneCell'] at this)
        rw [hone] at hv'
        cases hv'
        exact ⟨n, hr⟩
  · cases t with
    | arr k n =>
      cases v with
      | arr k' n' xs =>
        have hb' := RM.Out_bif h; clear h; obtain ⟨hc, h⟩ := hb'
        simp only [Bool.and_eq_true] at hc
        obtain rfl := ikEq_eq hc.1
        obtain rfl := Nat.eq_of_beq_eq_true hc.2
        obtain rfl := h.1
        exact hv
      | _ => exact h.elim
    | pbx b n => trivial
    | _ => exact absurd rfl hel
theorem ofCvs_rov (hS : Sim cx G S tm W) {F : Nat → Prop} (hF : ∀ b, G.F b → F b) : ∀ {ts : List Ty} {vs : List (Cv E)} {ws : List Value} {l l' : List Nat} {d : HT E.S ts}, (∀ v ∈ vs, v.cells.all okAt = true) → CvsR G S.k W vs ws → (∀ v ∈ vs, ∀ x ∈ v.cells, InF G S F x) → RM.Out S.h (ofCvs E ts vs) l d l' → RoVs E W F ts d ws
  | [], [], _, _, _, _, _, hr, _, h => hr
  | t :: ts, v :: vs, _, _, _, d, hok, ⟨w, r, hw, hv, hr⟩, hi, h => by
    obtain ⟨y, l1, h1, h⟩ := RM.Out_bind h
    obtain ⟨z, l2, h2, h⟩ := RM.Out_bind h
    obtain rfl := h.1
    exact ⟨w, r, hw, ofCv_rov hS hF (hok v (List.mem_cons_self ..)) hv (hi v (List.mem_cons_self ..)) h1, ofCvs_rov hS hF (fun v hv => hok v (List.mem_cons_of_mem _ hv)) hr (fun v hv => hi v (List.mem_cons_of_mem _ hv)) h2⟩
  | [], _ :: _, _, _, _, _, _, _, _, h => h.elim
  | _ :: _, [], _, _, _, _, _, _, _, h => h.elim
end Mir
