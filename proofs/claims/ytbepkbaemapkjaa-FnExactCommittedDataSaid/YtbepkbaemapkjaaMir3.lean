/- The mirror machine: what a state says of the world. -/
import Derived.Test.YtbepkbaemapkjaaMir2
import Derived.Laws.AppendOwn
import Derived.Laws.Cells
import Derived.Laws.Rows
namespace Mir
set_option linter.unusedVariables false
open Go
variable {E : Env}

/-! ### Data in memory -/
section
variable (E) (W : World) (F : Nat → Prop)
abbrev RAT (E : Env) := (t : Ty) → Ty.D E.S t → Value → Prop
def RoL (RA : RAT E) : (ts : List Ty) → HT E.S ts → List Value → Prop
  | [], _, vs => vs = []
  | t :: ts, h, vs => ∃ v r, vs = v :: r ∧ RA t h.1 v ∧ RoL RA ts h.2 r
def RoE (RA : RAT E) : (t : Ty) → Ty.D E.S t → List Value → Prop
  | .st n, x, vs => RoL E RA (E.fl n) (E.opn n x) vs
  | t, x, vs => ∃ v, vs = [v] ∧ RA t x v
def RoA : Nat → RAT E
  | _, .int k, x, v => v = .int k x
  | _, .bool, x, v => v = .bool x
  | _, .str, x, v => v = .string x
  | 0, .slice _ _, _, _ => False
  | d + 1, .slice _ t, xs, v => ∃ A c, v = .slice A xs.length c ∧ xs.length ≤ c ∧
      (0 < xs.length → ∃ a, A = some a ∧ F a.block ∧ ∀ (i : Nat) (hi : i < xs.length), ∃ vs, RoE E (RoA d) t xs[i] vs ∧
        ∀ (j : Nat) (hj : j < vs.length), W.cell? (a.add (i * tsz E t + j)) = some vs[j])
  | _, .st _, _, _ => False
  | _, .arr _ _, _, _ => False
  | _, .pbx _ _, _, _ => False
  | 0, .rsl _ _, _, _ => False
  | d + 1, .rsl _ t, xs, v => ∃ A c, v = .slice A xs.length c ∧ xs.length ≤ c ∧
      (0 < xs.length → ∃ a, A = some a ∧ F a.block ∧ ∀ (i : Nat) (hi : i < xs.length), ∃ vs, RoE E (RoA d) t xs[i] vs ∧
        ∀ (j : Nat) (hj : j < vs.length), W.cell? (a.add (i * tsz E t + j)) = some vs[j])
end
theorem RoA_rsl {W : World} {F : Nat → Prop} {d : Nat} {e : Nat} {t : Ty} {xs : List (Ty.D E.S t)} {v : Value} : RoA E W F d (.rsl e t) xs v ↔ RoA E W F d (.slice e t) xs v := by
  cases d <;> exact Iff.rfl

/-! ### Data that own all their rows -/
/-- Cells none of which is frozen (a conversion's mark stands behind them). -/
def CellsAt (W : World) (g : Nat) (cur : Array Value) (e : Nat) : Prop := ∃ fz : Nat × Nat, W.heap[g]? = some (.cells cur e fz) ∧ (fz = (0, 0) ∨ cur.size ≤ fz.1)
theorem CellsAt.of {W : World} {g : Nat} {cur : Array Value} {e : Nat} (h : W.heap[g]? = some (.cells cur e (0, 0))) : CellsAt W g cur e := ⟨_, h, .inl rfl⟩
theorem CellsAt.congr {W W' : World} {g : Nat} {cur : Array Value} {e : Nat} (h : CellsAt W g cur e) (hw : W'.heap[g]? = W.heap[g]?) : CellsAt W' g cur e := by
  obtain ⟨fz, h1, h2⟩ := h
  exact ⟨fz, hw.trans h1, h2⟩
theorem CellsAt.lt {W : World} {g : Nat} {cur : Array Value} {e : Nat} (h : CellsAt W g cur e) : g < W.heap.size := by
  obtain ⟨fz, h1, h2⟩ := h
  exact (Array.getElem?_eq_some_iff.1 h1).1
section
variable (E) (W : World)
abbrev DAT (E : Env) := (t : Ty) → Ty.D E.S t → Value → List Nat → Prop
def DeepL (DA : DAT E) : (ts : List Ty) → HT E.S ts → List Value → List Nat → Prop
  | [], _, vs, fp => vs = [] ∧ fp = []
  | t :: ts, h, vs, fp => ∃ v r f1 f2, vs = v :: r ∧ fp = f1 ++ f2 ∧ DA t h.1 v f1 ∧ DeepL DA ts h.2 r f2
def DeepE (DA : DAT E) : (t : Ty) → Ty.D E.S t → List Value → List Nat → Prop
  | .st n, x, vs, fp => DeepL E DA (E.fl n) (E.opn n x) vs fp
  | t, x, vs, fp => ∃ v, vs = [v] ∧ DA t x v fp
/-- The elements of a row, with each element's blocks. -/
def DeepR (DA : DAT E) (t : Ty) (xs : List (Ty.D E.S t)) (cs : List Value) (fps : List (List Nat)) : Prop :=
  fps.length = xs.length ∧ ∀ (i : Nat) (hi : i < xs.length), DeepE E DA t xs[i] ((cs.drop (i * tsz E t)).take (tsz E t)) (fps.getD i [])
/-- A struct's cells, but for the slice at one of them. -/
def DeepH (DA : DAT E) : (ts : List Ty) → HT E.S ts → List Value → Nat → List Nat → Prop
  | [], _, _, _, _ => False
  | t :: ts, h, vs, 0, fp => ∃ v r, vs = v :: r ∧ (∃ e' t', t = .slice e' t') ∧ DeepL E DA ts h.2 r fp
  | t :: ts, h, vs, c + 1, fp => ∃ v r f1 f2, vs = v :: r ∧ fp = f1 ++ f2 ∧ DA t h.1 v f1 ∧ DeepH DA ts h.2 r c f2
def DeepA : Nat → DAT E
  | _, .int k, x, v, fp => v = .int k x ∧ fp = []
  | _, .bool, x, v, fp => v = .bool x ∧ fp = []
  | _, .str, x, v, fp => v = .string x ∧ fp = []
  | 0, .slice _ _, _, _, _ => False
  | d + 1, .slice e t, xs, v, fp => (∃ A, v = .slice A 0 0 ∧ xs = [] ∧ fp = []) ∨
      ∃ g cap cur fps, v = .slice (some ⟨g, 0, none⟩) xs.length cap ∧ fp = g :: fps.flatten ∧ 0 < cap ∧ CellsAt W g cur e ∧ xs.length ≤ cap ∧ cap ≤ maxLen ∧ cap * tsz E t ≤ cur.size ∧
        DeepR E (DeepA d) t xs cur.toList fps
  | _, .st _, _, _, _ => False
  | _, .arr _ _, _, _, _ => False
  | _, .pbx _ _, _, _, _ => False
  | _, .rsl _ _, _, _, _ => False
end

theorem RoL.length {RA : RAT E} : ∀ {ts : List Ty} {h : HT E.S ts} {vs : List Value}, RoL E RA ts h vs → vs.length = ts.length
  | [], _, _, h => by rw [RoL] at h; simp [h]
  | _ :: ts, _, _, ⟨v, r, hv, _, hr⟩ => by rw [hv, List.length_cons, List.length_cons, RoL.length hr]
theorem RoE.length {RA : RAT E} {t : Ty} {x : Ty.D E.S t} {vs : List Value} (h : RoE E RA t x vs) : vs.length = tsz E t := by
  cases t with
  | st n => exact RoL.length h
  | _ => obtain ⟨v, rfl, _⟩ := h; rfl
theorem RoL.mono {RA RB : RAT E} (H : ∀ t x v, RA t x v → RB t x v) : ∀ {ts : List Ty} {h : HT E.S ts} {vs : List Value}, RoL E RA ts h vs → RoL E RB ts h vs
  | [], _, _, h => h
  | _ :: _, _, _, ⟨v, r, hv, ha, hr⟩ => ⟨v, r, hv, H _ _ _ ha, RoL.mono H hr⟩
theorem RoE.mono {RA RB : RAT E} (H : ∀ t x v, RA t x v → RB t x v) {t : Ty} {x : Ty.D E.S t} {vs : List Value} (h : RoE E RA t x vs) : RoE E RB t x vs := by
  cases t with
  | st n => exact RoL.mono H h
  | _ => obtain ⟨v, hv, ha⟩ := h; exact ⟨v, hv, H _ _ _ ha⟩
theorem RoA.more {W W' : World} {F F' : Nat → Prop} (hF : ∀ b, F b → F' b) (hW : ∀ b, F b → W'.heap[b]? = W.heap[b]?) : ∀ (d d' : Nat), d ≤ d' → ∀ (t : Ty) (x : Ty.D E.S t) (v : Value), RoA E W F d t x v → RoA E W' F' d' t x v := by
  intro d
  induction d with
  | zero =>
    intro d' _ t x v h
    cases t <;> cases d' <;> first | exact h | exact h.elim
  | succ d ih =>
    intro d' hd t x v h
    cases d' with
    | zero => omega
    | succ d' =>
      cases t with
      | slice e t | rsl e t =>
        obtain ⟨A, c, hv, hc, h⟩ := h
        refine ⟨A, c, hv, hc, fun h0 => ?_⟩
        obtain ⟨a, ha, hf, h⟩ := h h0
        refine ⟨a, ha, hF _ hf, fun i hi => ?_⟩
        obtain ⟨vs, hr, hcell⟩ := h i hi
        refine ⟨vs, hr.mono fun t x v => ih d' (by omega) t x v, fun j hj => ?_⟩
        rw [World.cell?_of_block (w := W) (w' := W') (a := a.add (i * tsz E t + j)) ?_]
        · exact hcell j hj
        · have : (a.add (i * tsz E t + j)).block = a.block := by unfold Addr.add; split <;> rfl
          rw [this]; exact hW _ hf
      | _ => exact h

/-! ### Values -/
structure Gh where
  loc : Nat → Nat
  hd : Nat → Value
  ln : Nat → Nat
  sz : Nat → Nat
  /-- By the number of what a deep row's elements' slices are: these; the blocks that they take. -/
  inh : Nat → Nat → Nat → Value
  fp : Nat → List Nat
  F : Nat → Prop

def capOf : Value → Nat
  | .slice _ _ c => c
  | _ => 0
def AtR (G : Gh) (K : Nat → Prop) (W : World) : At E → Value → Prop
  | .int k n, v => v = .int k n
  | .bool b, v => v = .bool b
  | .str s, v => v = .string s
  | .ro e t xs, v => ∃ d, RoA E W G.F d (.slice e t) xs v
  | .own id, v => K id ∧ v = G.hd id ∧ ∃ A n c, v = .slice A n c
  | .sub id off len, v => K id ∧ off + len ≤ G.ln id ∧ ∃ A c, v = .slice A len c ∧ len ≤ c ∧ (0 < c → A = some ⟨G.loc id, off * G.sz id, none⟩ ∧ off + c ≤ capOf (G.hd id))
  | .ptr id off, v => K id ∧ v = .pointer (some ⟨G.loc id, off, none⟩)
  | .eptr id i off, v => K id ∧ i < G.ln id ∧ v = .pointer (some ⟨G.loc id, i * G.sz id + off, none⟩)
  | .nils, v => ∃ A, v = .slice A 0 0
  | .nilp, v => v = .pointer none
  | .dead, _ => True
  | .undef, v => v = undef
  | .unk p q, v => ∃ b, v = .bool b ∧ (b = true → p = true) ∧ (b = false → q = true)
  | .mp id, v => K id ∧ v = .map (some (G.loc id))
  | .inn id hid i c, v => K id ∧ K hid ∧ v = G.inh hid i c ∧ ∃ A n m, v = .slice A n m
def AtsR (G : Gh) (K : Nat → Prop) (W : World) : List (At E) → List Value → Prop
  | [], vs => vs = []
  | x :: xs, vs => ∃ v r, vs = v :: r ∧ AtR G K W x v ∧ AtsR G K W xs r
def CvR (G : Gh) (K : Nat → Prop) (W : World) : Cv E → Value → Prop
  | .at x, v => AtR G K W x v
  | .agg xs, v => ∃ vs : List Value, v = .agg vs.toArray ∧ AtsR G K W xs vs
  | .arr k n xs, v => xs.length = n ∧ v = .agg (xs.map (Value.int k)).toArray
def CvsR (G : Gh) (K : Nat → Prop) (W : World) : List (Cv E) → List Value → Prop
  | [], vs => vs = []
  | x :: xs, vs => ∃ v r, vs = v :: r ∧ CvR G K W x v ∧ CvsR G K W xs r
def AVR (G : Gh) (K : Nat → Prop) (W : World) : AV E → Value → Prop
  | .c v, w => CvR G K W v w
  | .rp cells, w => ∃ a vs, w = .pointer (some a) ∧ AtsR G K W cells vs ∧ (0 < vs.length → G.F a.block) ∧ ∀ (j : Nat) (hj : j < vs.length), W.cell? (a.add j) = some vs[j]
  | .tup vs, w => ∃ ws : List Value, w = .tuple ws.toArray ∧ CvsR G K W vs ws
  | .clo f caps, w => ∃ ws : List Value, w = .func (.func f) #[] ws.toArray ∧ CvsR G K W caps ws

/-- A later ghost state: what was known stays. -/
structure Ext (G : Gh) (K : Nat → Prop) (W : World) (G' : Gh) (K' : Nat → Prop) (W' : World) : Prop where
  loc : ∀ i, K i → G'.loc i = G.loc i
  hd : ∀ i, K i → G'.hd i = G.hd i
  ln : ∀ i, K i → G'.ln i = G.ln i
  sz : ∀ i, K i → G'.sz i = G.sz i
  inh : ∀ i, K i → G'.inh i = G.inh i
  fp : ∀ i, K i → G'.fp i = G.fp i
  K : ∀ i, K i → K' i
  F : ∀ b, G.F b → G'.F b
  W : ∀ b, G.F b → W'.heap[b]? = W.heap[b]?
theorem Ext.refl (G : Gh) (K : Nat → Prop) (W : World) : Ext G K W G K W := ⟨fun _ _ => rfl, fun _ _ => rfl, fun _ _ => rfl, fun _ _ => rfl, fun _ _ => rfl, fun _ _ => rfl, fun _ h => h, fun _ h => h, fun _ _ => rfl⟩
theorem Ext.trans {G K W G' K' W' G2 K2 W2} (h : Ext G K W G' K' W') (k : Ext G' K' W' G2 K2 W2) : Ext G K W G2 K2 W2 :=
  ⟨fun i hi => (k.loc i (h.K i hi)).trans (h.loc i hi), fun i hi => (k.hd i (h.K i hi)).trans (h.hd i hi), fun i hi => (k.ln i (h.K i hi)).trans (h.ln i hi), fun i hi => (k.sz i (h.K i hi)).trans (h.sz i hi), fun i hi => (k.inh i (h.K i hi)).trans (h.inh i hi), fun i hi => (k.fp i (h.K i hi)).trans (h.fp i hi), fun i hi => k.K i (h.K i hi), fun b hb => k.F b (h.F b hb), fun b hb => (k.W b (h.F b hb)).trans (h.W b hb)⟩
section
variable {G G' : Gh} {K K' : Nat → Prop} {W W' : World} (h : Ext G K W G' K' W')
include h
theorem AtR.ext {x : At E} {v : Value} (hx : AtR G K W x v) : AtR G' K' W' x v := by
  cases x with
  | ro e t xs => obtain ⟨d, hd⟩ := hx; exact ⟨d, RoA.more h.F h.W d d (Nat.le_refl _) _ _ _ hd⟩
  | own id => exact ⟨h.K _ hx.1, hx.2.1.trans (h.hd id hx.1).symm, hx.2.2⟩
  | sub id off len => obtain ⟨hk, h1, h2⟩ := hx; exact ⟨h.K _ hk, by rw [h.ln id hk]; exact h1, by rw [h.loc id hk, h.sz id hk, h.hd id hk]; exact h2⟩
  | ptr id off => exact ⟨h.K _ hx.1, by rw [h.loc id hx.1]; exact hx.2⟩
  | eptr id i off => exact ⟨h.K _ hx.1, by rw [h.ln id hx.1]; exact hx.2.1, by rw [h.loc id hx.1, h.sz id hx.1]; exact hx.2.2⟩
  | mp id => exact ⟨h.K _ hx.1, by rw [h.loc id hx.1]; exact hx.2⟩
  | inn id hid i c => exact ⟨h.K _ hx.1, h.K _ hx.2.1, by rw [h.inh hid hx.2.1]; exact hx.2.2.1, hx.2.2.2⟩
  | _ => exact hx
theorem AtsR.ext : ∀ {xs : List (At E)} {vs : List Value}, AtsR G K W xs vs → AtsR G' K' W' xs vs
  | [], _, hx => hx
  | _ :: _, _, ⟨v, r, hv, ha, hr⟩ => ⟨v, r, hv, ha.ext h, AtsR.ext hr⟩
theorem CvR.ext {x : Cv E} {v : Value} (hx : CvR G K W x v) : CvR G' K' W' x v := by
  cases x with
  | «at» x => exact AtR.ext h hx
  | agg xs => obtain ⟨vs, hv, ha⟩ := hx; exact ⟨vs, hv, ha.ext h⟩
  | arr k n xs => exact hx
theorem CvsR.ext : ∀ {xs : List (Cv E)} {vs : List Value}, CvsR G K W xs vs → CvsR G' K' W' xs vs
  | [], _, hx => hx
  | _ :: _, _, ⟨v, r, hv, ha, hr⟩ => ⟨v, r, hv, ha.ext h, CvsR.ext hr⟩
theorem AVR.ext {x : AV E} {v : Value} (hx : AVR G K W x v) : AVR G' K' W' x v := by
  cases x with
  | c x => exact CvR.ext h hx
  | rp cells =>
    obtain ⟨a, vs, hv, ha, hf, hc⟩ := hx
    refine ⟨a, vs, hv, ha.ext h, fun h0 => h.F _ (hf h0), fun j hj => ?_⟩
    rw [World.cell?_of_block (w := W) (w' := W') (a := a.add j) ?_]
    · exact hc j hj
    · have : (a.add j).block = a.block := by unfold Addr.add; split <;> rfl
      rw [this]; exact h.W _ (hf (by omega))
  | tup vs => obtain ⟨ws, hv, ha⟩ := hx; exact ⟨ws, hv, ha.ext h⟩
  | clo f caps => obtain ⟨ws, hv, ha⟩ := hx; exact ⟨ws, hv, ha.ext h⟩
end
theorem AtsR.length {G : Gh} {K : Nat → Prop} {W : World} : ∀ {xs : List (At E)} {vs : List Value}, AtsR G K W xs vs → vs.length = xs.length
  | [], _, h => by rw [AtsR] at h; simp [h]
  | _ :: _, _, ⟨v, r, hv, _, hr⟩ => by rw [hv, List.length_cons, List.length_cons, AtsR.length hr]
theorem AtsR.drop {G : Gh} {K : Nat → Prop} {W : World} : ∀ (n : Nat) {xs : List (At E)} {vs : List Value}, AtsR G K W xs vs → AtsR G K W (xs.drop n) (vs.drop n)
  | 0, _, _, h => by simpa using h
  | n + 1, [], vs, h => by rw [AtsR] at h; subst h; simp [AtsR]
  | n + 1, _ :: xs, vs, ⟨v, r, hv, _, hr⟩ => by subst hv; simpa using AtsR.drop n hr
theorem AtsR.take {G : Gh} {K : Nat → Prop} {W : World} : ∀ (n : Nat) {xs : List (At E)} {vs : List Value}, AtsR G K W xs vs → AtsR G K W (xs.take n) (vs.take n)
  | 0, _, _, _ => by simp [AtsR]
  | n + 1, [], vs, h => by rw [AtsR] at h; subst h; simp [AtsR]
  | n + 1, _ :: xs, vs, ⟨v, r, hv, ha, hr⟩ => by subst hv; exact ⟨v, r.take n, rfl, ha, AtsR.take n hr⟩
theorem AtsR.append {G : Gh} {K : Nat → Prop} {W : World} : ∀ {xs ys : List (At E)} {vs ws : List Value}, AtsR G K W xs vs → AtsR G K W ys ws → AtsR G K W (xs ++ ys) (vs ++ ws)
  | [], _, _, _, h, k => by rw [AtsR] at h; subst h; exact k
  | _ :: _, _, _, _, ⟨v, r, hv, ha, hr⟩, k => by subst hv; exact ⟨v, _, rfl, ha, AtsR.append hr k⟩
theorem AtsR.get {G : Gh} {K : Nat → Prop} {W : World} : ∀ {xs : List (At E)} {vs : List Value}, AtsR G K W xs vs → ∀ (i : Nat) (h : i < xs.length) (h' : i < vs.length), AtR G K W xs[i] vs[i]
  | _ :: _, _, ⟨v, r, hv, ha, _⟩, 0, _, _ => by subst hv; exact ha
  | _ :: xs, _, ⟨v, r, hv, _, hr⟩, i + 1, h, h' => by subst hv; exact AtsR.get hr i (by simpa using h) (by simpa using h')
theorem AtsR.putAt {G : Gh} {K : Nat → Prop} {W : World} {xs ys : List (At E)} {vs ws : List Value} (h : AtsR G K W xs vs) (k : AtsR G K W ys ws) (off : Nat) : AtsR G K W (putAt xs off ys) (putAt vs off ws) := by
  unfold Mir.putAt
  rw [k.length]
  exact ((h.take off).append k).append (h.drop _)

/-! ### Blocks -/
def BlkR (G : Gh) (K : Nat → Prop) (W : World) (id : Nat) : Blk E → Prop
  | .box t cells => ∃ vs : List Value, W.heap[G.loc id]? = some (.cells vs.toArray t (0, 0)) ∧ AtsR G K W cells vs
  | .arr t k n xs => xs.length = n ∧ G.ln id = n ∧ G.sz id = 1 ∧ W.heap[G.loc id]? = some (.cells (xs.map (Value.int k)).toArray t (0, 0))
  | .row e t xs _ => G.ln id = xs.length ∧ G.sz id = tsz E t ∧ 0 < tsz E t ∧
      ((∃ A, G.hd id = .slice A 0 0 ∧ xs = []) ∨
       ∃ cap cur d, G.hd id = .slice (some ⟨G.loc id, 0, none⟩) xs.length cap ∧ 0 < cap ∧ CellsAt W (G.loc id) cur e ∧ xs.length ≤ cap ∧ cap ≤ maxLen ∧ cap * tsz E t ≤ cur.size ∧
         ∀ (i : Nat) (hi : i < xs.length), RoE E (RoA E W G.F d) t xs[i] ((cur.toList.drop (i * tsz E t)).take (tsz E t)))
  | .gone => False
  | .drow e t xs hid => K hid ∧ G.ln id = xs.length ∧ G.sz id = tsz E t ∧ 0 < tsz E t ∧
      ((∃ A, G.hd id = .slice A 0 0 ∧ xs = [] ∧ G.fp hid = []) ∨
       ∃ cap cur d fps, G.hd id = .slice (some ⟨G.loc id, 0, none⟩) xs.length cap ∧ 0 < cap ∧ CellsAt W (G.loc id) cur e ∧ xs.length ≤ cap ∧ cap ≤ maxLen ∧ cap * tsz E t ≤ cur.size ∧
         G.fp hid = fps.flatten ∧ (G.loc id :: fps.flatten).Nodup ∧ DeepR E (DeepA E W d) t xs cur.toList fps ∧
         ∀ (i c : Nat), i < xs.length → c < tsz E t → (∃ A n m, cur[i * tsz E t + c]? = some (.slice A n m)) → cur[i * tsz E t + c]? = some (G.inh hid i c))
  | .hdr => True
  | .rbx cells => ∃ vs : List Value, AtsR G K W cells vs ∧ (0 < vs.length → G.F (G.loc id)) ∧ ∀ (j : Nat) (hj : j < vs.length), W.cell? ⟨G.loc id, j, none⟩ = some vs[j]
  | .hole e n xs hid i c => K hid ∧ G.ln id = xs.length ∧ G.sz id = tsz E (.st n) ∧ c < tsz E (.st n) ∧
      ∃ (hi : i < xs.length) (cap : Nat) (cur : Array Value) (d : Nat) (fps : List (List Nat)), G.hd id = .slice (some ⟨G.loc id, 0, none⟩) xs.length cap ∧ 0 < cap ∧ CellsAt W (G.loc id) cur e ∧ xs.length ≤ cap ∧ cap ≤ maxLen ∧ cap * tsz E (.st n) ≤ cur.size ∧
        G.fp hid = fps.flatten ∧ (G.loc id :: fps.flatten).Nodup ∧ fps.length = xs.length ∧ cur[i * tsz E (.st n) + c]? = some (G.inh hid i c) ∧
        (∀ (j : Nat) (hj : j < xs.length), j ≠ i → DeepE E (DeepA E W d) (.st n) xs[j] ((cur.toList.drop (j * tsz E (.st n))).take (tsz E (.st n))) (fps.getD j [])) ∧
        DeepH E (DeepA E W d) (E.fl n) (E.opn n xs[i]) ((cur.toList.drop (i * tsz E (.st n))).take (tsz E (.st n))) c (fps.getD i [])
  | .mp k t ents => ∃ (es : List MapEntry) (clock : Nat), W.heap[G.loc id]? = some (.map es.toArray clock) ∧ es.length = ents.length ∧
      ∀ (i : Nat) (h : i < es.length) (h' : i < ents.length), es[i].key = .int k ents[i].1 ∧ ∃ (vs : List Value) (d : Nat), es[i].val = .agg vs.toArray ∧ RoL E (RoA E W G.F d) (E.fl t) (E.opn t ents[i].2) vs
/-- The block that it takes. -/
def Occ (G : Gh) (id : Nat) : Blk E → Nat → Prop
  | .box _ _, b => b = G.loc id
  | .arr _ _ _ _, b => b = G.loc id
  | .row _ _ _ _, b => b = G.loc id ∧ 0 < capOf (G.hd id)
  | .gone, _ => False
  | .drow _ _ _ hid, b => (b = G.loc id ∧ 0 < capOf (G.hd id)) ∨ b ∈ G.fp hid
  | .hdr, _ => False
  | .rbx _, _ => False
  | .hole _ _ _ hid _ _, b => b = G.loc id ∨ b ∈ G.fp hid
  | .mp _ _ _, b => b = G.loc id
def Blk.fz : Blk E → Bool
  | .row _ _ _ f => f
  | _ => false

structure Cx where
  M : Nat → Prop
  W0 : World
  F0 : Nat → Prop
structure Frm (cx : Cx) (W : World) : Prop where
  os : W.os = cx.W0.os
  tape : W.tape = cx.W0.tape
  output : W.output = cx.W0.output
  size : cx.W0.heap.size ≤ W.heap.size
  block : ∀ b, b < cx.W0.heap.size → ¬ cx.M b → W.heap[b]? = cx.W0.heap[b]?
def St.k (S : St E) (id : Nat) : Prop := (lk S.H id).isSome = true
structure Sim (cx : Cx) (G : Gh) (S : St E) (tm : Array Value) (W : World) : Prop where
  sz : tm.size = S.n
  tmps : ∀ s v, lk S.ρ s = some v → AVR G S.k W v (tm.getD s undef)
  blks : ∀ id b, S.h id = some b → BlkR G S.k W id b
  inj : ∀ i j bi bj k, S.h i = some bi → S.h j = some bj → Occ G i bi k → Occ G j bj k → i = j
  sepF : ∀ id b k, S.h id = some b → Occ G id b k → b.fz = true → G.F k
  sep : ∀ id b k, S.h id = some b → Occ G id b k → b.fz = false → ¬ G.F k
  own : ∀ id b k, S.h id = some b → Occ G id b k → b.fz = false → cx.W0.heap.size ≤ k ∨ cx.M k
  fr : ∀ k, G.F k → k < W.heap.size
  frm : Frm cx W
  ff : (∀ b, cx.F0 b → G.F b) ∧ ∀ b, G.F b → cx.F0 b ∨ cx.W0.heap.size ≤ b ∨ cx.M b
theorem DeepL_lt {W : World} {DA : DAT E} (H : ∀ t x v fp, DA t x v fp → ∀ k ∈ fp, k < W.heap.size) : ∀ {ts : List Ty} {h : HT E.S ts} {vs : List Value} {fp : List Nat}, DeepL E DA ts h vs fp → ∀ k ∈ fp, k < W.heap.size
  | [], _, _, _, h, k, hk => by rw [h.2] at hk; cases hk
  | _ :: _, _, _, _, ⟨v, r, f1, f2, _, rfl, ha, hr⟩, k, hk => by
    rcases List.mem_append.1 hk with hk | hk
    · exact H _ _ _ _ ha k hk
    · exact DeepL_lt H hr k hk
theorem DeepE_lt {W : World} {DA : DAT E} (H : ∀ t x v fp, DA t x v fp → ∀ k ∈ fp, k < W.heap.size) {t : Ty} {x : Ty.D E.S t} {vs : List Value} {fp : List Nat} (h : DeepE E DA t x vs fp) : ∀ k ∈ fp, k < W.heap.size := by
  cases t with
  | st n => exact DeepL_lt H h
  | _ => obtain ⟨v, _, h⟩ := h; exact H _ _ _ _ h
theorem DeepH_lt {W : World} {DA : DAT E} (H : ∀ t x v fp, DA t x v fp → ∀ k ∈ fp, k < W.heap.size) : ∀ {ts : List Ty} {h : HT E.S ts} {vs : List Value} {c : Nat} {fp : List Nat}, DeepH E DA ts h vs c fp → ∀ k ∈ fp, k < W.heap.size
  | [], _, _, _, _, h, _, _ => h.elim
  | _ :: _, _, _, 0, _, ⟨v, r, _, _, hr⟩, k, hk => DeepL_lt H hr k hk
  | _ :: _, _, _, c + 1, _, ⟨v, r, f1, f2, _, rfl, ha, hr⟩, k, hk => by
    rcases List.mem_append.1 hk with hk | hk
    · exact H _ _ _ _ ha k hk
    · exact DeepH_lt H hr k hk
theorem DeepR_lt {W : World} {DA : DAT E} (H : ∀ t x v fp, DA t x v fp → ∀ k ∈ fp, k < W.heap.size) {t : Ty} {xs : List (Ty.D E.S t)} {cs : List Value} {fps : List (List Nat)} (h : DeepR E DA t xs cs fps) : ∀ k ∈ fps.flatten, k < W.heap.size := by
  intro k hk
  obtain ⟨l, hl, hk⟩ := List.mem_flatten.1 hk
  obtain ⟨i, hi, rfl⟩ := List.getElem_of_mem hl
  have := h.2 i (by rw [← h.1]; exact hi)
  rw [List.getD_eq_getElem?_getD, List.getElem?_eq_getElem hi] at this
  exact DeepE_lt H this k hk
theorem DeepA_lt {W : World} : ∀ {d : Nat} {t : Ty} {x : Ty.D E.S t} {v : Value} {fp : List Nat}, DeepA E W d t x v fp → ∀ k ∈ fp, k < W.heap.size := by
  intro d
  induction d with
  | zero => intro t x v fp h k hk; cases t <;> first | (rw [h.2] at hk; cases hk) | exact h.elim
  | succ d ih =>
    intro t x v fp h k hk
    cases t with
    | slice e t =>
      rcases h with ⟨A, _, _, rfl⟩ | ⟨g, cap, cur, fps, _, rfl, _, hh, _, _, _, hr⟩
      · cases hk
      · rcases List.mem_cons.1 hk with rfl | hk
        · exact hh.lt
        · exact DeepR_lt (fun _ _ _ _ h => ih h) hr k hk
    | int _ => rw [h.2] at hk; cases hk
    | bool => rw [h.2] at hk; cases hk
    | str => rw [h.2] at hk; cases hk
    | st _ => exact h.elim
    | arr _ _ => exact h.elim
    | rsl _ _ => exact h.elim
    | pbx _ _ => exact h.elim
theorem St.h_k {S : St E} {id : Nat} {b : Blk E} (h : S.h id = some b) : S.k id := by
  unfold St.h at h; unfold St.k
  cases hl : lk S.H id with
  | none => rw [hl] at h; cases h
  | some b => rfl
theorem Occ.lt {G : Gh} {K : Nat → Prop} {W : World} {id : Nat} {b : Blk E} (h : BlkR G K W id b) {k : Nat} (ho : Occ G id b k) : k < W.heap.size := by
  cases b with
  | gone => exact h.elim
  | hdr => exact ho.elim
  | rbx cells => exact ho.elim
  | mp k t es => obtain ⟨_, _, h, _⟩ := h; cases ho; exact (Array.getElem?_eq_some_iff.1 h).1
  | hole e n xs hid i c =>
    obtain ⟨_, _, _, _, hi, cap, cur, d, fps, _, _, hh, _, _, _, hfp, _, hl, _, h1, h2⟩ := h
    rcases ho with rfl | ho
    · exact hh.lt
    · rw [hfp] at ho
      obtain ⟨l, hl', hk⟩ := List.mem_flatten.1 ho
      obtain ⟨j, hj, rfl⟩ := List.getElem_of_mem hl'
      by_cases hji : j = i
      · subst hji
        rw [List.getD_eq_getElem?_getD, List.getElem?_eq_getElem hj] at h2
        exact DeepH_lt (fun _ _ _ _ h => DeepA_lt h) h2 k hk
      · have := h1 j (by rw [← hl]; exact hj) hji
        rw [List.getD_eq_getElem?_getD, List.getElem?_eq_getElem hj] at this
        exact DeepE_lt (fun _ _ _ _ h => DeepA_lt h) this k hk
  | box t cells => obtain ⟨vs, h, _⟩ := h; cases ho; exact (Array.getElem?_eq_some_iff.1 h).1
  | drow e t xs hid =>
    obtain ⟨_, _, _, _, h⟩ := h
    rcases h with ⟨A, hA, _, hfp⟩ | ⟨cap, cur, d, fps, hhd, hc, hh, _, _, _, hfp, _, hr, _⟩
    · rcases ho with ⟨_, hc⟩ | hm
      · rw [hA] at hc; simp [capOf] at hc
      · rw [hfp] at hm; cases hm
    · rcases ho with ⟨rfl, _⟩ | hm
      · exact hh.lt
      · rw [hfp] at hm
        exact DeepR_lt (fun _ _ _ _ h => DeepA_lt h) hr k hm
  | arr t k n xs => obtain ⟨_, _, _, h⟩ := h; cases ho; exact (Array.getElem?_eq_some_iff.1 h).1
  | row e t xs f =>
    obtain ⟨_, _, _, h⟩ := h
    obtain ⟨rfl, hc⟩ := ho
    rcases h with ⟨A, hA, _⟩ | ⟨cap, cur, d, _, _, h, _⟩
    · rw [hA] at hc; simp [capOf] at hc
    · exact h.lt
end Mir
