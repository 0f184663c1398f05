/- The models are what the functions do. -/
import Derived.Test.YtojpcjbdehoibaaGreatKP3
import Derived.Test.YtojpcjbdehoibaaGreatKRootA
namespace Mir.Y
set_option linter.unusedVariables false
set_option maxRecDepth 10000
open Go Go.Proofs Mir
end Mir.Y
namespace Go.Proofs
open Go.RowKit Go.Shelf
attribute [local go_sem] Oper.semAt_some
namespace Root
open Mir Mir.Y
set_option linter.unusedVariables false
noncomputable def st (N : Nat) (h : ByteArray) (t : Int) (s o : ByteArray) : Option ByteArray :=
  ob (impl_bit.m N h t) fun b => bif b == (0 : Int) then impl_forkRoot.m N t o s else impl_forkRoot.m N t s o
/-- A step that can be gone. -/
abbrev EntR (N : Nat) (h : ByteArray) (p : Prop) := { x : Ent // p → ∀ o : ByteArray, o.size = 32 → ∃ y, st N h x.t x.s o = some y ∧ y.size = 32 }
noncomputable def fo (N : Nat) (h : ByteArray) {p : Prop} : List (Nat × EntR N h p) → ByteArray → Option ByteArray
  | [], o => some o
  | x :: r, o => ob (st N h x.2.1.t x.2.1.s o) (fo N h r)
theorem fo_app (N : Nat) (h : ByteArray) {p : Prop} (x : Nat × EntR N h p) : ∀ (l : List (Nat × EntR N h p)) (o : ByteArray), fo N h (l ++ [x]) o = ob (fo N h l o) (st N h x.2.1.t x.2.1.s)
  | [], o => by simp only [List.nil_append, fo, ob]; cases st N h x.2.1.t x.2.1.s o <;> rfl
  | y :: l, o => by
    simp only [List.cons_append, fo]
    cases st N h y.2.1.t y.2.1.s o with
    | none => rfl
    | some z => exact fo_app N h x l z
theorem leaf_calls (N : Nat) (a b r : ByteArray) (W : World) (h : impl_leafRoot.m N a b = some r) : Calls Tryz.prog 50 #[.string a, .string b] W fun e W' => e = .returned (.string r) ∧ Below W.heap.size W W' := by
  refine ((impl_leafRoot.snd N).2 W (fun _ => False) (a, b, ()) r [.string a, .string b] [] h ⟨_, _, [], [], rfl, rfl, ⟨⟨0, rfl⟩, rfl⟩, ⟨_, _, [], [], rfl, rfl, ⟨⟨0, rfl⟩, rfl⟩, rfl, rfl⟩⟩ List.nodup_nil (fun b h => by cases h) (fun b hb => hb.elim)).mono ?_
  rintro e W' ⟨v, rfl, hl⟩
  obtain ⟨F', vs, fpR, fpO, rfl, hFF, hF', hres, hout, hnd, hfree⟩ := hl.ex
  obtain ⟨v1, q1, f1, g1, rfl, rfl, ho1, rfl, rfl⟩ := hres
  obtain ⟨rfl, rfl⟩ := ho1
  exact ⟨rfl, ⟨hl.os, hl.tape, hl.output, hl.size, fun k hk => hl.block k hk (by simp)⟩⟩
theorem bit_calls (N : Nat) (a : ByteArray) (t r : Int) (W : World) (h : impl_bit.m N a t = some r) : Calls Tryz.prog 22 #[.string a, .int .i64 t] W fun e W' => e = .returned (.int .i64 r) ∧ Below W.heap.size W W' := by
  refine ((impl_bit.snd N).2 W (fun _ => False) (a, t, ()) r [.string a, .int .i64 t] [] h ⟨_, _, [], [], rfl, rfl, ⟨⟨0, rfl⟩, rfl⟩, ⟨_, _, [], [], rfl, rfl, ⟨⟨0, rfl⟩, rfl⟩, rfl, rfl⟩⟩ List.nodup_nil (fun b h => by cases h) (fun b hb => hb.elim)).mono ?_
  rintro e W' ⟨v, rfl, hl⟩
  obtain ⟨F', vs, fpR, fpO, rfl, hFF, hF', hres, hout, hnd, hfree⟩ := hl.ex
  obtain ⟨v1, q1, f1, g1, rfl, rfl, ho1, rfl, rfl⟩ := hres
  obtain ⟨rfl, rfl⟩ := ho1
  exact ⟨rfl, ⟨hl.os, hl.tape, hl.output, hl.size, fun k hk => hl.block k hk (by simp)⟩⟩
theorem fork_calls (N : Nat) (t : Int) (a b r : ByteArray) (W : World) (h : impl_forkRoot.m N t a b = some r) : Calls Tryz.prog 51 #[.int .i64 t, .string a, .string b] W fun e W' => e = .returned (.string r) ∧ Below W.heap.size W W' := by
  refine ((impl_forkRoot.snd N).2 W (fun _ => False) (t, a, b, ()) r [.int .i64 t, .string a, .string b] [] h ⟨_, _, [], [], rfl, rfl, ⟨⟨0, rfl⟩, rfl⟩, ⟨_, _, [], [], rfl, rfl, ⟨⟨0, rfl⟩, rfl⟩, ⟨_, _, [], [], rfl, rfl, ⟨⟨0, rfl⟩, rfl⟩, rfl, rfl⟩⟩⟩ List.nodup_nil (fun b h => by cases h) (fun b hb => hb.elim)).mono ?_
  rintro e W' ⟨v, rfl, hl⟩
  obtain ⟨F', vs, fpR, fpO, rfl, hFF, hF', hres, hout, hnd, hfree⟩ := hl.ex
  obtain ⟨v1, q1, f1, g1, rfl, rfl, ho1, rfl, rfl⟩ := hres
  obtain ⟨rfl, rfl⟩ := ho1
  exact ⟨rfl, ⟨hl.os, hl.tape, hl.output, hl.size, fun k hk => hl.block k hk (by simp)⟩⟩
def Box2 (W : World) (B : Nat) (e : Ent) : Prop := W.heap[B]? = some (.cells #[.int .i64 e.t, .string e.s] 52 (0, 0))
theorem box2_own (B : Nat) (e : Ent) : Own (fun (_ : Unit) W => Box2 W B e) := fun s W W' row hs hg hr => (grownBy_keeps_cells hg hr hs rfl).trans hs
set_option maxRecDepth 100000 in
set_option maxHeartbeats 4000000 in
theorem root_in (N : Nat) (n : Nat) (hn : 3 ≤ n) (w : World) (c0 : Value) (k v h out0 R : ByteArray) (A : Option Addr) (len cap : Nat) (hreach : len ≤ 1048576000) (zs : Nat → EntR N h (0 < len)) (hE : Ents Subtype.val w.heap.size w (.slice A len cap) len zs)
    (ho : impl_leafRoot.m N k v = some out0) (hs : out0.size = 32) (hR : fo N h (downto (fun j => (j, zs j)) len len) out0 = some R) :
    CallsIn Fence.wide n Tryz.prog 71 #[.agg #[c0, .string k, .string v, .slice A len cap], .string h] w fun e W' => e = .returned (.string R) ∧ Below w.heap.size w W' := by
  have h1 : 1 ≤ n := by omega
  refine callsIn_of_wp_marks Tryz.func71 rfl trivial ?_ rfl
  simp only [Tryz.ntmps71, List.size_toArray, List.length_cons, List.length_nil, Nat.reduceAdd, Nat.reduceSub, Array.replicate_succ, Array.replicate_zero, List.push_toArray, List.append_toArray, List.nil_append, List.cons_append]
  gi_wp2_with (first
    | (refine ⟨trivial, ?_⟩; gi_at_call 50; refine (callsIn_wide.2 (leaf_calls N k v out0 _ ho)).mono ?_; rintro e W1 ⟨rfl, hB1⟩; have hW1 : w.heap.size + 2 ≤ W1.heap.size := (by have := hB1.size; simpa using this); have hP : W1.heap[w.heap.size]? = some (.cells #[c0, .string k, .string v, .slice A len cap] 32 (0, 0)) := (hB1.block w.heap.size (by simp; omega)).trans ((Below.heap_alloc (w.alloc (.cells #[c0, .string k, .string v, .slice A len cap] 32)) (.cells #[.string h] 9) w.heap.size (by simp)).trans (World.alloc_heap_new w _)); have hH : Boxed W1 (w.heap.size + 1) 9 (.string h) := (hB1.block (w.heap.size + 1) (by simp)).trans (by have := Boxed.new (w.alloc (.cells #[c0, .string k, .string v, .slice A len cap] 32)) 9 (.string h); rwa [World.size_alloc] at this); have cP : (W1.alloc (.cells #[.string out0] 9)).cell? ⟨w.heap.size, 3, none⟩ = some (.slice A len cap) := (by have hN := (Below.heap_alloc W1 (.cells #[.string out0] 9) w.heap.size (by omega)).trans hP; simp [World.cell?, hN]))
    | (refine ⟨trivial, ?_⟩; gi_at_call 95; refine (back_in Fence.wide (n - 1) trivial rfl _ _ _ _).mono ?_; rintro e w' ⟨rfl, rfl⟩))
  have bO : Boxed ((W1.alloc (.cells #[.string out0] 9)).alloc (.cells #[.slice A len cap] 30)) W1.heap.size 9 (.string out0) := (Boxed.new W1 9 (.string out0)).alloc _
  have bB := Boxed.new (W1.alloc (.cells #[.string out0] 9)) 30 (.slice A len cap)
  simp only [World.size_alloc] at bB
  have hB0 : Below W1.heap.size W1 ((W1.alloc (.cells #[.string out0] 9)).alloc (.cells #[.slice A len cap] 30)) := ((Below.refl _ W1).alloc (Nat.le_refl _) _).alloc (by simp) _
  have hsz : ((W1.alloc (.cells #[.string out0] 9)).alloc (.cells #[.slice A len cap] 30)).heap.size = W1.heap.size + 2 := by simp
  have hBw : Below w.heap.size w W1 := (((Below.refl _ w).alloc (Nat.le_refl _) _).alloc (by simp) _).trans (hB1.mono (by simp; omega))
  obtain ⟨W0, hW0⟩ : ∃ W0, ((W1.alloc (.cells #[.string out0] 9)).alloc (.cells #[.slice A len cap] 30)) = W0 := ⟨_, rfl⟩
  rw [hW0] at bO bB hB0 hsz ⊢
  clear hW0
  have hH0 : Boxed W0 (w.heap.size + 1) 9 (.string h) := (hB0.block (w.heap.size + 1) (by omega)).trans hH
  refine wpIn_rangeFunc_ownH rfl h1 (gf := 110) (lb := #[.pointer (some ⟨W1.heap.size + 1, 0, none⟩)]) rfl trivial (enters_of Tryz.func110 (by kernel_rfl) rfl)
    (back_stops Subtype.val Fence.wide (n - 1) trivial rfl (by omega) (W1.heap.size + 1) W0.heap.size W1.heap.size (.slice A len cap) len zs hreach W0 (by omega) (by omega) (by omega) (Nat.le_refl _) bB.cell ((hE.below hBw |>.below (hB0.mono (by omega))).mono (by omega)))
    Bel.trans (fun W l o o' hl ho h2 h3 => ⟨belowK_b (w := W0) (by omega) W l o o' hl ho h2 h3, fun k _ hk => World.putObj_heap_other (by omega)⟩) (Below.refl _ _) (fun _ => rfl)
    (fun pre W => (∃ o, fo N h pre out0 = some o ∧ o.size = 32 ∧ Boxed W W1.heap.size 9 (.string o)) ∧ Below W1.heap.size W0 W)
    (fun c pre W => False)
    (OwnFrom.and (Own.from (fun s X Y row hs hg hr => by
      obtain ⟨o, e1, e2, e3⟩ := hs
      exact ⟨o, e1, e2, boxed_own _ 9 (fun (_ : Unit) => .string o) () X Y row e3 hg hr⟩) _) (ownFrom_below (by omega) (by omega)))
    (fun c s X Y row hs hg hr => hs)
    ⟨⟨out0, rfl, hs, bO⟩, Below.refl _ _⟩
    (fun x a' W => ∃ Bx, W1.heap.size + 1 < Bx ∧ Box2 W Bx x.2.1 ∧ a' = { tmps := #[.agg #[c0, .string k, .string v, .slice A len cap], .string h, .pointer (some ⟨w.heap.size, 0, none⟩), .pointer (some ⟨w.heap.size + 1, 0, none⟩), .string { data := #[] }, .pointer (some ⟨W1.heap.size, 0, none⟩), undef, .pointer (some ⟨Bx, 0, none⟩), .pointer (some ⟨w.heap.size, 1, none⟩), .string k, .pointer (some ⟨w.heap.size, 2, none⟩), .string v, .string out0, .pointer (some ⟨w.heap.size, 3, none⟩), .slice A len cap, .func (.func 110) #[] #[.pointer (some ⟨W1.heap.size + 1, 0, none⟩)], .int .i64 (x.1 : Int), x.2.1.v, undef, undef, undef, undef, undef, undef, undef, undef, undef, undef, undef, undef, undef, undef, undef, undef, undef, undef], defers := [] })
    (fun x a' _ X Y row hs hg hr => by obtain ⟨Bx, h1, h2, h3⟩ := hs; exact ⟨Bx, h1, box2_own Bx x.2.1 () X Y row h2 hg (fun r e => (hr r e).2), h3⟩)
    ?assign ?body ?done ?stop
  case assign =>
    rintro l pre x W K ⟨⟨o, e1, e2, e3⟩, hB2⟩ hK
    have hsz2 := hB2.size
    simp only [Ent.v]
    gi_wp2
    exact hK _ _ ((KeepsOthers.alloc _ _).from _) ⟨(Below.refl _ W).alloc (by omega) _, fun k _ hk => Below.heap_alloc _ _ _ (by omega)⟩ ⟨⟨o, e1, e2, e3.alloc _⟩, hB2.alloc (by omega) _⟩ ⟨W.heap.size, by omega, World.alloc_heap_new W _, rfl⟩
  case body =>
    rintro l pre x a' W hl ⟨rr, hr⟩ ⟨⟨o, e1, e2, e3⟩, hB2⟩ ⟨Bx, hBx, bX, rfl⟩ hlt
    have hsz2 := hB2.size
    have hHW : Boxed W (w.heap.size + 1) 9 (.string h) := (hB2.block (w.heap.size + 1) (by omega)).trans hH0
    have cH := hHW.cell
    have cX0 : W.cell? ⟨Bx, 0, none⟩ = some (.int .i64 x.2.1.t) := by simp [World.cell?, show W.heap[Bx]? = _ from bX]
    obtain ⟨y, hy, hy32⟩ := x.2.2 (by omega) o e2
    have hfo : fo N h (pre ++ [x]) out0 = some y := by rw [fo_app, e1]; exact hy
    have hBxl : Bx < W.heap.size := (Array.getElem?_eq_some_iff.1 (show W.heap[Bx]? = _ from bX)).1
    have hOl : W1.heap.size < W.heap.size := e3.lt
    unfold st at hy
    cases hb : impl_bit.m N h x.2.1.t with
    | none => rw [hb] at hy; cases hy
    | some b =>
    rw [hb] at hy
    have hy : (bif b == (0 : Int) then impl_forkRoot.m N x.2.1.t o x.2.1.s else impl_forkRoot.m N x.2.1.t x.2.1.s o) = some y := hy
    have after : ∀ W2, Below W.heap.size W W2 → Boxed W2 W1.heap.size 9 (.string o) ∧ Box2 W2 Bx x.2.1 ∧ W.heap.size ≤ W2.heap.size := fun W2 h2 => ⟨(h2.block _ hOl).trans e3, (h2.block _ hBxl).trans bX, h2.size⟩
    have fin : ∀ W3, Below W.heap.size W W3 → KeepsFrom W0.heap.size W (W3.setCell ⟨W1.heap.size, 0, none⟩ (.string y)) ∧ Bel W0.heap.size W1.heap.size W (W3.setCell ⟨W1.heap.size, 0, none⟩ (.string y)) ∧ ((∃ o, fo N h (pre ++ [x]) out0 = some o ∧ o.size = 32 ∧ Boxed (W3.setCell ⟨W1.heap.size, 0, none⟩ (.string y)) W1.heap.size 9 (.string o)) ∧ Below W1.heap.size W0 (W3.setCell ⟨W1.heap.size, 0, none⟩ (.string y))) := by
      intro W3 h3
      have hbx := ((after W3 h3).1).set (.string y)
      have h3s := h3.size
      refine ⟨(show KeepsFrom _ W W3 from ⟨h3.size, fun i o _ hi _ => (h3.block i (Array.getElem?_eq_some_iff.1 hi).1).trans hi⟩).trans ((KeepsOthers.setCell _ _ _).from _), ⟨(h3.mono (show W1.heap.size ≤ W.heap.size by omega)).setCell (p := ⟨W1.heap.size, 0, none⟩) (Nat.le_refl _) _, fun k hk hk2 => ?_⟩, ⟨y, hfo, hy32, hbx⟩, (hB2.trans (h3.mono (show W1.heap.size ≤ W.heap.size by omega))).setCell (p := ⟨W1.heap.size, 0, none⟩) (Nat.le_refl _) _⟩
      exact ((grownBy_setCell' W3 W1.heap.size (.string y)).block k (by omega) (fun e => by cases e; omega)).trans (h3.block k (by omega))
    simp only [Ent.v]
    gi_wp2_with (first
      | (refine ⟨trivial, fun h => (by cases h), ?_⟩; gi_at_call 22; refine (CallsIn.inRound l (callsIn_wide.2 (bit_calls N h x.2.1.t b _ hb))).mono ?_; rintro e W2 ⟨rfl, hB3⟩; obtain ⟨bO2, bX2, hs2⟩ := after W2 hB3; have cO2 := bO2.cell; have cX20 : W2.cell? ⟨Bx, 0, none⟩ = some (.int .i64 x.2.1.t) := (by simp [World.cell?, show W2.heap[Bx]? = _ from bX2]); have cX21 : W2.cell? ⟨Bx, 1, none⟩ = some (.string x.2.1.s) := (by simp [World.cell?, show W2.heap[Bx]? = _ from bX2]))
      | (refine ⟨trivial, fun h => (by cases h), ?_⟩; gi_at_call 51; refine (CallsIn.inRound l (callsIn_wide.2 (fork_calls N x.2.1.t _ _ y _ (by simpa [*] using hy)))).mono ?_; rintro e W3 ⟨rfl, hB4⟩; have hB5 := Below.trans hB3 (hB4.mono hs2); obtain ⟨bO3, bX3, hs3⟩ := after W3 hB5; have cO3 := bO3.cell; have fO3 := bO3.frozen))
    all_goals exact fin _ hB5
  case done =>
    rintro D ys W hD rfl ⟨⟨o, e1, e2, e3⟩, hB2⟩ hK
    have hsz2 := hB2.size
    obtain rfl : o = R := by rw [hR] at e1; cases e1; rfl
    have cO := e3.cell
    gi_wp2
    refine ⟨by simp, .inl ⟨_, _, rfl, run_takeDeferred hK, ?_⟩⟩
    refine ⟨.string o, ?_, rfl, (hBw.trans ((hB0.mono (by omega)).trans (hB2.mono (by omega)))).trans (belowK_b (w := w) (Nat.le_refl _) _ D _ _ (by omega) hK rfl rfl)⟩
    simp [results, Tryz.f71, go_sem]
  case stop =>
    rintro D c pre W hD hp hf hK
    exact hf.elim
end Root
end Go.Proofs
namespace Mir.Y
set_option linter.unusedVariables false
set_option maxRecDepth 10000
open Go Go.Proofs Mir
namespace impl_MapProof_rootOf
open Go.Proofs.Root
def zOf (l : List MapStep) (j : Nat) : Ent := ⟨(l.getD j MapStep.dz).At, (l.getD j MapStep.dz).Hash⟩
theorem agg_of {W : World} {F : Nat → Prop} {a : MapProof} {v : Value} (h : RoV E W F (.st 32) a v) : ∃ (A : Option Addr) (cap d : Nat), v = .agg #[.bool a.Found, .string a.Key, .string a.Value, .slice A a.Steps.length cap] ∧
    RoA E W F d (.slice 52 (.st 52)) a.Steps (.slice A a.Steps.length cap) := by
  obtain ⟨vs, d, rfl, h⟩ := h
  have h : RoL E (RoA E W F d) [.bool, .str, .str, .slice 52 (.st 52)] (a.Found, a.Key, a.Value, a.Steps, ()) vs := h
  cases d with
  | zero => obtain ⟨v0, r0, rfl, h0, v1, r1, rfl, h1, v2, r2, rfl, h2, v3, r3, rfl, h3, _⟩ := h; exact h3.elim
  | succ d =>
    obtain ⟨v0, r0, rfl, h0, v1, r1, rfl, h1, v2, r2, rfl, h2, v3, r3, rfl, h3, h4⟩ := h
    have e0 : v0 = .bool a.Found := h0
    have e1 : v1 = .string a.Key := h1
    have e2 : v2 = .string a.Value := h2
    have e4 : r3 = [] := h4
    have k3 := h3
    obtain ⟨A, c3, q3, _⟩ := h3
    have q3 : v3 = .slice A a.Steps.length c3 := q3
    subst e0 e1 e2 e4 q3
    exact ⟨A, c3, d + 1, rfl, k3⟩
theorem downto_get {α : Type} (f : Nat → α) (n : Nat) : ∀ (k i : Nat), i < k → (downto f n k)[i]? = some (f (n - 1 - i))
  | k + 1, i, h => by
    simp only [downto]
    by_cases e : i < k
    · rw [List.getElem?_append_left (by rw [downto_length]; exact e)]; exact downto_get f n k i e
    · obtain rfl : i = k := by omega
      rw [List.getElem?_append_right (by rw [downto_length]; exact Nat.le_refl _), downto_length, Nat.sub_self]; rfl
theorem fo_map (N : Nat) (h : ByteArray) {p : Prop} : ∀ (l : List (Nat × EntR N h p)) (o : ByteArray), Go.Proofs.Root.fo N h l o = fo N h (l.map fun x => MapStep.mk x.2.1.t x.2.1.s) o
  | [], o => rfl
  | x :: l, o => by
    simp only [Go.Proofs.Root.fo, List.map_cons, fo]
    show ob (st N h x.2.1.t x.2.1.s o) _ = ob (st N h x.2.1.t x.2.1.s o) _
    cases st N h x.2.1.t x.2.1.s o with
    | none => rfl
    | some z => exact fo_map N h l z
theorem snd (N : Nat) : Sound Tryz.prog E 71 (sp N) := by
  refine ⟨fun args W => run_callFunc_go Tryz.func71 (c := Tryz.f71.body.getD .skip) (by kernel_rfl) (by kernel_rfl) args W, ?_⟩
  rintro W F ⟨a0, a1, _⟩ r args fp hfn ⟨v, vs, f1, f2, rfl, rfl, ⟨h0, rfl⟩, ⟨w, ws, g1, g2, rfl, rfl, ⟨h1, rfl⟩, ⟨rfl, rfl⟩⟩⟩ _ _ hF
  have hfn : m N a0 a1 = some r := hfn
  have e1 : w = .string a1 := by obtain ⟨d, h⟩ := h1; cases d <;> exact h
  subst e1
  unfold m at hfn
  by_cases hk : Ok N a0 a1
  · rw [if_pos hk] at hfn
    obtain ⟨hlen, hst, o0, ho, ho32⟩ := hk
    rw [ho] at hfn
    have hfn : fo N a1 a0.Steps.reverse o0 = some r := hfn
    obtain ⟨A, cap, d, rfl, hlog⟩ := agg_of h0
    have hz : ∀ j, 0 < a0.Steps.length → ∀ o : ByteArray, o.size = 32 → ∃ y : ByteArray, Go.Proofs.Root.st N a1 (zOf a0.Steps (min j (a0.Steps.length - 1))).t (zOf a0.Steps (min j (a0.Steps.length - 1))).s o = some y ∧ y.size = 32 := by
      intro j hl
      have hm : a0.Steps.getD (min j (a0.Steps.length - 1)) MapStep.dz ∈ a0.Steps := by
        rw [List.getD_eq_getElem?_getD, List.getElem?_eq_getElem (show min j (a0.Steps.length - 1) < a0.Steps.length by omega)]; exact List.getElem_mem _
      exact hst _ hm
    have hE : Ents Subtype.val W.heap.size W (.slice A a0.Steps.length cap) a0.Steps.length (fun j => (⟨zOf a0.Steps (min j (a0.Steps.length - 1)), hz j⟩ : EntR N a1 (0 < a0.Steps.length))) := by
      cases d with
      | zero => exact hlog.elim
      | succ d =>
        obtain ⟨A', c', hv, hlc, h⟩ := hlog
        cases hv
        by_cases hl : 0 < a0.Steps.length
        · obtain ⟨ad, rfl, hFa, hel⟩ := h hl
          have cells : ∀ j, (hj : j < a0.Steps.length) → W.cell? (ad.add (j * 2 + 0)) = some (.int .i64 (zOf a0.Steps (min j (a0.Steps.length - 1))).t) ∧ W.cell? (ad.add (j * 2 + 1)) = some (.string (zOf a0.Steps (min j (a0.Steps.length - 1))).s) := by
            intro j hj
            obtain ⟨us, hr, hcells⟩ := hel j hj
            have hr : RoL E (RoA E W F d) [.int .i64, .str] (a0.Steps[j].At, a0.Steps[j].Hash, ()) us := hr
            obtain ⟨u0, q0, rfl, k0, u1, q1, rfl, k1, k3⟩ := hr
            have e0 : u0 = .int .i64 a0.Steps[j].At := by cases d <;> exact k0
            have e1 : u1 = .string a0.Steps[j].Hash := by cases d <;> exact k1
            have e3 : q1 = [] := k3
            subst e0 e1 e3
            have hmin : min j (a0.Steps.length - 1) = j := by omega
            have hg : a0.Steps.getD j MapStep.dz = a0.Steps[j] := by rw [List.getD_eq_getElem?_getD, List.getElem?_eq_getElem hj]; rfl
            unfold zOf
            rw [hmin, hg]
            exact ⟨hcells 0 (by simp), hcells 1 (by simp)⟩
          have hspot : ad.spot = none := by
            have h0 := (cells 0 hl).1
            have e : ad.add (0 * 2 + 0) = ad := rfl
            rw [e] at h0
            unfold World.cell? at h0
            split at h0
            · cases hs : ad.spot with
              | none => rfl
              | some s => rw [hs] at h0; simp at h0
            · cases h0
          obtain ⟨b, off, sp⟩ := ad
          have hspot : sp = none := hspot
          subst hspot
          refine .inr ⟨b, off, cap, rfl, hF b hFa, fun j hj => ?_⟩
          obtain ⟨q0, q1⟩ := cells j hj
          rw [add_lit] at q0 q1
          exact ⟨q0, q1⟩
        · exact .inl ⟨A, cap, by rw [show a0.Steps.length = 0 by omega], by omega⟩
    have hR : Go.Proofs.Root.fo N a1 (downto (fun j => (j, (⟨zOf a0.Steps (min j (a0.Steps.length - 1)), hz j⟩ : EntR N a1 (0 < a0.Steps.length)))) a0.Steps.length a0.Steps.length) o0 = some r := by
      rw [fo_map, ← hfn]
      congr 1
      apply List.ext_getElem?
      intro i
      rw [List.getElem?_map]
      by_cases hi : i < a0.Steps.length
      · rw [downto_get _ _ _ _ hi, List.getElem?_reverse hi, List.getElem?_eq_getElem (show a0.Steps.length - 1 - i < a0.Steps.length by omega)]
        have hmin : min (a0.Steps.length - 1 - i) (a0.Steps.length - 1) = a0.Steps.length - 1 - i := by omega
        have hg : a0.Steps.getD (a0.Steps.length - 1 - i) MapStep.dz = a0.Steps[a0.Steps.length - 1 - i]'(by omega) := by rw [List.getD_eq_getElem?_getD, List.getElem?_eq_getElem (by omega)]; rfl
        simp only [Option.map_some, zOf, hmin, hg]
      · rw [List.getElem?_eq_none (by rw [downto_length]; omega), List.getElem?_eq_none (by rw [List.length_reverse]; omega)]; rfl
    have hcall := root_in N 3 (Nat.le_refl _) W (.bool a0.Found) a0.Key a0.Value a1 o0 r A a0.Steps.length cap hlen _ hE ho ho32 hR
    refine (callsIn_wide.1 hcall).mono ?_
    rintro e W' ⟨rfl, hB⟩
    refine ⟨_, rfl, ⟨F, [.string r], [], [], rfl, fun _ h => h, fun b h => ⟨.inl h, Nat.lt_of_lt_of_le (hF b h) hB.size⟩, ⟨_, [], [], [], rfl, rfl, ⟨rfl, rfl⟩, ⟨rfl, rfl⟩⟩, ⟨_, _, [], [], rfl, rfl, rfl, ⟨_, _, [], [], rfl, rfl, rfl, ⟨rfl, rfl⟩⟩⟩, List.nodup_nil, fun b hb => by cases hb⟩, hB.os, hB.tape, hB.output, hB.size, fun b hb _ => hB.block b hb⟩
  · rw [if_neg hk] at hfn; cases hfn
end impl_MapProof_rootOf

namespace impl_checkKey
noncomputable def code : Code := Tryz.f32.body.getD .skip
abbrev live : Live := []
noncomputable def G (N : Nat) : Ctx E := gam [(20, [], impl_hash.sp N), (29, [], impl_isKey.sp N), (70, [69], slices_ContainsFunc_impl_MapStep_impl_MapStep__impl_checkKey_1.sp N), (71, [], impl_MapProof_rootOf.sp N)]
noncomputable def m0 (N : Nat) (a0 : ByteArray) (a1 : ByteArray) (a2 : MapProof) : Option R :=
  bif (seq a2.Key ByteArray.empty) then
    bif a2.Found then
      some (10:Int)
    else
    bif (bif false then true else (!seq a2.Value ByteArray.empty)) then
      some (10:Int)
    else
    bif (bif false then true else (decide ((a2.Steps.length : Int) > (0:Int)))) then
      some (10:Int)
    else
    ob (impl_hash.m N (⟨#[2]⟩ : ByteArray)) fun y1 =>
    bif (bif false then true else (!seq a0 y1)) then
      some (10:Int)
    else
    some (0:Int)
  else
  ob (impl_hash.m N a1) fun y2 =>
  ob (impl_hash.m N a2.Key) fun y3 =>
  ob (impl_isKey.m N a2.Key) fun y4 =>
  bif (!y4) then
    some (10:Int)
  else
  bif (bif false then true else (!(a2.Found == (seq a2.Key a1)))) then
    some (10:Int)
  else
  ob (slices_ContainsFunc_impl_MapStep_impl_MapStep__impl_checkKey_1.m N a2.Steps y2 y3) fun y5 =>
  bif (bif false then true else y5) then
    some (10:Int)
  else
  ob (impl_MapProof_rootOf.m N a2 y2) fun y6 =>
  bif (!seq y6 a0) then
    some (11:Int)
  else
  some (0:Int)
theorem run (N : Nat) (o0 : Orc E R) (a0 : ByteArray) (a1 : ByteArray) (a2 : MapProof) : runF T (G N) live [] Tryz.f32 code (sp N) o0 (a0, a1, a2, ()) = m0 N a0 a1 a2 := by kernel_rfl
theorem G_ok (N : Nat) : GamOK Tryz.prog (G N) := gam_ok (l := [(20, [], impl_hash.sp N), (29, [], impl_isKey.sp N), (70, [69], slices_ContainsFunc_impl_MapStep_impl_MapStep__impl_checkKey_1.sp N), (71, [], impl_MapProof_rootOf.sp N)]) (⟨impl_hash.snd N, impl_isKey.snd N, slices_ContainsFunc_impl_MapStep_impl_MapStep__impl_checkKey_1.snd N, impl_MapProof_rootOf.snd N, trivial⟩)
theorem snd (N : Nat) : Sound Tryz.prog E 32 (sp N) :=
  Mir.sound T_OK (G_ok N) mixed Tryz.func32 (c := code) (by kernel_rfl) (by kernel_rfl) (sp N) (Nat.le_of_ble_eq_true (by kernel_rfl)) live [] (by
    rintro ⟨a0, a1, a2, _⟩ r h
    exact ⟨N, 2, ((run N _ a0 a1 a2).trans rfl).trans h⟩)
end impl_checkKey
namespace impl_CheckKey
noncomputable def code : Code := Tryz.f11.body.getD .skip
abbrev live : Live := []
noncomputable def G (N : Nat) : Ctx E := gam [(27, [], impl_isText.sp N), (28, [], impl_isHash.sp N), (29, [], impl_isKey.sp N), (30, [], impl_stepsOK.sp N), (31, [], impl_isValue.sp N), (32, [], impl_checkKey.sp N)]
noncomputable def m0 (N : Nat) (a0 : ByteArray) (a1 : ByteArray) (a2 : MapProof) : Option R :=
  ob (impl_isText.m N ([a0, a1])) fun y1 =>
  bif (!y1) then
    some (2:Int)
  else
  ob (impl_isHash.m N ([a0])) fun y2 =>
  bif (!y2) then
    some (1:Int)
  else
  ob (impl_isKey.m N a1) fun y3 =>
  bif (bif false then true else (!y3)) then
    some (1:Int)
  else
  ob (impl_stepsOK.m N a2.Steps) fun y4 =>
  bif (bif false then true else (!y4)) then
    some (1:Int)
  else
  ob (impl_isValue.m N a2.Value) fun y5 =>
  bif (bif false then true else (!y5)) then
    some (1:Int)
  else
  ob (impl_checkKey.m N a0 a1 a2) fun y6 =>
  some y6
theorem run (N : Nat) (o0 : Orc E R) (a0 : ByteArray) (a1 : ByteArray) (a2 : MapProof) : runF T (G N) live [] Tryz.f11 code (sp N) o0 (a0, a1, a2, ()) = m0 N a0 a1 a2 := by kernel_rfl
theorem G_ok (N : Nat) : GamOK Tryz.prog (G N) := gam_ok (l := [(27, [], impl_isText.sp N), (28, [], impl_isHash.sp N), (29, [], impl_isKey.sp N), (30, [], impl_stepsOK.sp N), (31, [], impl_isValue.sp N), (32, [], impl_checkKey.sp N)]) (⟨impl_isText.snd N, impl_isHash.snd N, impl_isKey.snd N, impl_stepsOK.snd N, impl_isValue.snd N, impl_checkKey.snd N, trivial⟩)
theorem snd (N : Nat) : Sound Tryz.prog E 11 (sp N) :=
  Mir.sound T_OK (G_ok N) mixed Tryz.func11 (c := code) (by kernel_rfl) (by kernel_rfl) (sp N) (Nat.le_of_ble_eq_true (by kernel_rfl)) live [] (by
    rintro ⟨a0, a1, a2, _⟩ r h
    exact ⟨N, 2, ((run N _ a0 a1 a2).trans rfl).trans h⟩)
end impl_CheckKey
namespace spec_l00Src_digest
noncomputable def code : Code := Tryz.f33.body.getD .skip
abbrev live : Live := []
noncomputable def G (N : Nat) : Ctx E := gam [(40, [], spec_l00Src_next_.sp N), (35, [], spec_l01Hash.sp N)]
noncomputable def m0 (N : Nat) (a0 : l00Src) : Option R :=
  ob (spec_l00Src_next_.m N a0 (256:Int)) fun y1 =>
  ob (spec_l00Src_next_.m N y1.2 (4:Int)) fun y2 =>
  ob (spec_l01Hash.m N ([(wu8 y1.1), (wu8 y2.1)])) fun y3 =>
  some (y3, y2.2)
theorem run (N : Nat) (o0 : Orc E R) (a0 : l00Src) : runF TD (G N) live [] Tryz.f33 code (sp N) o0 (a0, ()) = m0 N a0 := by kernel_rfl
theorem G_ok (N : Nat) : GamOK Tryz.prog (G N) := gam_ok (l := [(40, [], spec_l00Src_next_.sp N), (35, [], spec_l01Hash.sp N)]) (⟨spec_l00Src_next_.snd N, spec_l01Hash.snd N, trivial⟩)
theorem snd (N : Nat) : Sound Tryz.prog E 33 (sp N) :=
  Mir.sound TD_OK (G_ok N) mixed Tryz.func33 (c := code) (by kernel_rfl) (by kernel_rfl) (sp N) (Nat.le_of_ble_eq_true (by kernel_rfl)) live [] (by
    rintro ⟨a0, _⟩ r h
    exact ⟨N, 2, ((run N _ a0).trans rfl).trans h⟩)
end spec_l00Src_digest
namespace spec_HashOf
noncomputable def code : Code := Tryz.f12.body.getD .skip
abbrev live : Live := []
noncomputable def G (N : Nat) : Ctx E := gam [(14, [], spec_l00Source.sp N), (33, [], spec_l00Src_digest.sp N)]
noncomputable def m0 (N : Nat) (a0 : List Int) : Option R :=
  ob (spec_l00Source.m N a0) fun y1 =>
  ob (spec_l00Src_digest.m N y1) fun y2 =>
  some y2.1
theorem run (N : Nat) (o0 : Orc E R) (a0 : List Int) : runF T (G N) live [] Tryz.f12 code (sp N) o0 (a0, ()) = m0 N a0 := by kernel_rfl
theorem G_ok (N : Nat) : GamOK Tryz.prog (G N) := gam_ok (l := [(14, [], spec_l00Source.sp N), (33, [], spec_l00Src_digest.sp N)]) (⟨spec_l00Source.snd N, spec_l00Src_digest.snd N, trivial⟩)
theorem snd (N : Nat) : Sound Tryz.prog E 12 (sp N) :=
  Mir.sound T_OK (G_ok N) mixed Tryz.func12 (c := code) (by kernel_rfl) (by kernel_rfl) (sp N) (Nat.le_of_ble_eq_true (by kernel_rfl)) live [] (by
    rintro ⟨a0, _⟩ r h
    exact ⟨N, 2, ((run N _ a0).trans rfl).trans h⟩)
end spec_HashOf
namespace spec_l07Check
noncomputable def code : Code := Tryz.f38.body.getD .skip
abbrev live : Live := [(3, [0, 1, 7, 8])]
noncomputable def G (N : Nat) : Ctx E := gam [(37, [], spec_l07Bit.sp N), (74, [], spec_l07ForkHash.sp N)]
noncomputable def loop3 : Code := codeAt code [1, 1, 0, 1, 0]
noncomputable def body3 : Code := codeAt loop3 [0]
noncomputable def K3 (N : Nat) (o0 : Orc E R) : KT E R := kAt T (G N) live [] o0 code [1, 1, 0, 1, 0] (kfin T Tryz.f38 (sp N))
noncomputable def St3 (a0 : ByteArray) (a1 : List MapStep) (a2 : ByteArray) : (ByteArray × Int) → St E
  | (v2, v3) => { ρ := [(0, .c (.at (.str a0))), (1, .c (.at (.ro 52 (.st 52) a1))), (7, .c (.at (.str v2))), (8, .c (.at (.int .i64 v3)))], H := [], nx := 0, n := 50, pin := [] }
noncomputable def m0 (N : Nat) (a0 : ByteArray) (a1 : List MapStep) (a2 : ByteArray) (lp3 : ByteArray × Int → Option R) : Option R :=
  lp3 (a2, (w64 ((a1.length : Int) - (1:Int))))
theorem run (N : Nat) (o0 : Orc E R) (a0 : ByteArray) (a1 : List MapStep) (a2 : ByteArray) : runF T (G N) live [] Tryz.f38 code (sp N) o0 (a0, a1, a2, ()) = m0 N a0 a1 a2 (fun a => o0 loop3 (K3 N o0) (St3 a0 a1 a2 a)) := by kernel_rfl
theorem body3_0 (N : Nat) (o0 : Orc E R) (o1 : Orc E R) (q1 : St E → Option R) (a0 : ByteArray) (a1 : List MapStep) (a2 : ByteArray) (v2 : ByteArray) (v3 : Int) : runA T (G N) live [] o1 body3 (St3 a0 a1 a2 (v2, v3)) (kloop [0, 1, 7, 8] q1 (K3 N o0)) = step3 N a0 a1 a2 (fun a => q1 (St3 a0 a1 a2 a)) (v2, v3) := by kernel_rfl
theorem lp3_eq (N : Nat) (a0 : ByteArray) (a1 : List MapStep) (a2 : ByteArray) (a : ByteArray × Int) : (orc T (G N) live [] N 2) loop3 (K3 N (orc T (G N) live [] N 2)) (St3 a0 a1 a2 a) = lp3 N a0 a1 a2 a :=
  (orc_loop (b := body3) (live := [0, 1, 7, 8]) (by kernel_rfl)).trans (iter_eq (St3 a0 a1 a2) _ _ (fun q1 a => by
    have hc := congrFun (congrFun (rfl : (step3 N a0 a1 a2) = (step3 N a0 a1 a2)) (fun a => q1 (St3 a0 a1 a2 a))) a
    obtain ⟨u0, u1⟩ := a
    exact (body3_0 N (orc T (G N) live [] N 2) (orc T (G N) live [] N 1) q1 a0 a1 a2 u0 u1).trans hc) N a)
theorem G_ok (N : Nat) : GamOK Tryz.prog (G N) := gam_ok (l := [(37, [], spec_l07Bit.sp N), (74, [], spec_l07ForkHash.sp N)]) (⟨spec_l07Bit.snd N, spec_l07ForkHash.snd N, trivial⟩)
theorem snd (N : Nat) : Sound Tryz.prog E 38 (sp N) :=
  Mir.sound T_OK (G_ok N) mixed Tryz.func38 (c := code) (by kernel_rfl) (by kernel_rfl) (sp N) (Nat.le_of_ble_eq_true (by kernel_rfl)) live [] (by
    rintro ⟨a0, a1, a2, _⟩ r h
    exact ⟨N, 2, ((run N _ a0 a1 a2).trans (congrArg (m0 N a0 a1 a2) (funext fun a => lp3_eq N a0 a1 a2 a))).trans h⟩)
end spec_l07Check
namespace spec_CheckKey
noncomputable def code : Code := Tryz.f13.body.getD .skip
abbrev live : Live := [(21, [0, 5, 8, 9, 10]), (8, [0, 1, 5, 7])]
noncomputable def G (N : Nat) : Ctx E := gam [(24, [], spec_l02Key.sp N), (34, [], spec_l01In.sp N), (35, [], spec_l01Hash.sp N), (36, [], spec_l07Hash.sp N), (37, [], spec_l07Bit.sp N), (39, [], spec_l07LeafHash.sp N), (38, [], spec_l07Check.sp N)]
noncomputable def loop8 : Code := codeAt code [1, 1, 1, 1, 0, 1, 0]
noncomputable def body8 : Code := codeAt loop8 [0]
noncomputable def loop21 : Code := codeAt code [1, 1, 1, 1, 1, 1, 1, 1, 1, 0, 1, 0]
noncomputable def body21 : Code := codeAt loop21 [0]
noncomputable def K8 (N : Nat) (o0 : Orc E R) : KT E R := kAt T (G N) live [] o0 code [1, 1, 1, 1, 0, 1, 0] (kfin T Tryz.f13 (sp N))
noncomputable def St8 (a0 : ByteArray) (a1 : ByteArray) (a2 : MapProof) : Int → St E
  | v2 => { ρ := [(0, .c (.at (.str a0))), (1, .c (.at (.str a1))), (5, .c (.at (.ptr 0 0))), (7, .c (.at (.int .i64 v2)))], H := [(0, .box 32 [.bool a2.Found, .str a2.Key, .str a2.Value, .ro 52 (.st 52) a2.Steps])], nx := 1, n := 175, pin := [] }
noncomputable def K21 (N : Nat) (o0 : Orc E R) : KT E R := kAt T (G N) live [] o0 code [1, 1, 1, 1, 1, 1, 1, 1, 1, 0, 1, 0] (kfin T Tryz.f13 (sp N))
noncomputable def St21 (a0 : ByteArray) (a1 : ByteArray) (a2 : MapProof) : (ByteArray × ByteArray × Int) → St E
  | (v1, v2, v3) => { ρ := [(0, .c (.at (.str a0))), (5, .c (.at (.ptr 0 0))), (8, .c (.at (.str v1))), (9, .c (.at (.str v2))), (10, .c (.at (.int .i64 v3)))], H := [(0, .box 32 [.bool a2.Found, .str a2.Key, .str a2.Value, .ro 52 (.st 52) a2.Steps])], nx := 1, n := 175, pin := [] }
noncomputable def m0 (N : Nat) (a0 : ByteArray) (a1 : ByteArray) (a2 : MapProof) (lp8 : Int → Option R) : Option R :=
  bif (decide ((a0.size : Int) > (65536:Int))) then
    some (2:Int)
  else
  bif (decide ((a2.Steps.length : Int) > (4096:Int))) then
    some (2:Int)
  else
  bif (bif false then true else (decide ((a1.size : Int) > (65536:Int)))) then
    some (2:Int)
  else
  bif (bif false then true else (decide ((a2.Key.size : Int) > (65536:Int)))) then
    some (2:Int)
  else
  bif (bif false then true else (decide ((a2.Value.size : Int) > (65536:Int)))) then
    some (2:Int)
  else
  bif ((a0.size : Int) != (32:Int)) then
    some (1:Int)
  else
  ob (spec_l02Key.m N a1) fun y1 =>
  bif (bif false then true else (!y1)) then
    some (1:Int)
  else
  bif (bif false then true else (decide ((a2.Steps.length : Int) > (256:Int)))) then
    some (1:Int)
  else
  bif (bif false then true else (decide ((a2.Value.size : Int) > (60:Int)))) then
    some (1:Int)
  else
  lp8 (0:Int)
theorem run (N : Nat) (o0 : Orc E R) (a0 : ByteArray) (a1 : ByteArray) (a2 : MapProof) : runF T (G N) live [] Tryz.f13 code (sp N) o0 (a0, a1, a2, ()) = m0 N a0 a1 a2 (fun a => o0 loop8 (K8 N o0) (St8 a0 a1 a2 a)) := by kernel_rfl
theorem body8_0 (N : Nat) (o0 : Orc E R) (o1 : Orc E R) (q1 : St E → Option R) (a0 : ByteArray) (a1 : ByteArray) (a2 : MapProof) (v2 : Int) : runA T (G N) live [] o1 body8 (St8 a0 a1 a2 v2) (kloop [0, 1, 5, 7] q1 (K8 N o0)) = step8 N a0 a1 a2 (fun a => o0 loop21 (K21 N o0) (St21 a0 a1 a2 a)) (fun a => q1 (St8 a0 a1 a2 a)) v2 := by kernel_rfl
theorem body21_0 (N : Nat) (o0 : Orc E R) (o1 : Orc E R) (q1 : St E → Option R) (a0 : ByteArray) (a1 : ByteArray) (a2 : MapProof) (v1 : ByteArray) (v2 : ByteArray) (v3 : Int) : runA T (G N) live [] o1 body21 (St21 a0 a1 a2 (v1, v2, v3)) (kloop [0, 5, 8, 9, 10] q1 (K21 N o0)) = step21 N a0 a1 a2 (fun a => q1 (St21 a0 a1 a2 a)) (v1, v2, v3) := by kernel_rfl
theorem lp21_eq (N : Nat) (a0 : ByteArray) (a1 : ByteArray) (a2 : MapProof) (a : ByteArray × ByteArray × Int) : (orc T (G N) live [] N 2) loop21 (K21 N (orc T (G N) live [] N 2)) (St21 a0 a1 a2 a) = lp21 N a0 a1 a2 a :=
  (orc_loop (b := body21) (live := [0, 5, 8, 9, 10]) (by kernel_rfl)).trans (iter_eq (St21 a0 a1 a2) _ _ (fun q1 a => by
    have hc := congrFun (congrFun (rfl : (step21 N a0 a1 a2) = (step21 N a0 a1 a2)) (fun a => q1 (St21 a0 a1 a2 a))) a
    obtain ⟨u0, u1, u2⟩ := a
    exact (body21_0 N (orc T (G N) live [] N 2) (orc T (G N) live [] N 1) q1 a0 a1 a2 u0 u1 u2).trans hc) N a)
theorem lp8_eq (N : Nat) (a0 : ByteArray) (a1 : ByteArray) (a2 : MapProof) (a : Int) : (orc T (G N) live [] N 2) loop8 (K8 N (orc T (G N) live [] N 2)) (St8 a0 a1 a2 a) = lp8 N a0 a1 a2 a :=
  (orc_loop (b := body8) (live := [0, 1, 5, 7]) (by kernel_rfl)).trans (iter_eq (St8 a0 a1 a2) _ _ (fun q1 a => by
    have hc := congrFun (congrFun (congrArg (step8 N a0 a1 a2) (funext fun a => lp21_eq N a0 a1 a2 a)) (fun a => q1 (St8 a0 a1 a2 a))) a
    exact (body8_0 N (orc T (G N) live [] N 2) (orc T (G N) live [] N 1) q1 a0 a1 a2 a).trans hc) N a)
theorem G_ok (N : Nat) : GamOK Tryz.prog (G N) := gam_ok (l := [(24, [], spec_l02Key.sp N), (34, [], spec_l01In.sp N), (35, [], spec_l01Hash.sp N), (36, [], spec_l07Hash.sp N), (37, [], spec_l07Bit.sp N), (39, [], spec_l07LeafHash.sp N), (38, [], spec_l07Check.sp N)]) (⟨spec_l02Key.snd N, spec_l01In.snd N, spec_l01Hash.snd N, spec_l07Hash.snd N, spec_l07Bit.snd N, spec_l07LeafHash.snd N, spec_l07Check.snd N, trivial⟩)
theorem snd (N : Nat) : Sound Tryz.prog E 13 (sp N) :=
  Mir.sound T_OK (G_ok N) mixed Tryz.func13 (c := code) (by kernel_rfl) (by kernel_rfl) (sp N) (Nat.le_of_ble_eq_true (by kernel_rfl)) live [] (by
    rintro ⟨a0, a1, a2, _⟩ r h
    exact ⟨N, 2, ((run N _ a0 a1 a2).trans (congrArg (m0 N a0 a1 a2) (funext fun a => lp8_eq N a0 a1 a2 a))).trans h⟩)
end spec_CheckKey
namespace laws_FnMapProofs
noncomputable def code : Code := Tryz.f3.body.getD .skip
abbrev live : Live := []
noncomputable def G (N : Nat) : Ctx E := gam [(4, [], spec_MapOf.sp N), (5, [], spec_MapKeyOf.sp N), (6, [], impl_MapRoot.sp N), (7, [], impl_ProveKey.sp N), (8, [], spec_ProveKey.sp N), (9, [], impl_MapGet.sp N), (10, [], laws_sameProof.sp N), (11, [], impl_CheckKey.sp N), (12, [], spec_HashOf.sp N), (13, [], spec_CheckKey.sp N)]
noncomputable def m0 (N : Nat) (a0 : List Int) (a1 : List Int) : Option R :=
  bif (decide ((a0.length : Int) > (1048576:Int))) then
    some true
  else
  bif (bif false then true else (decide ((a1.length : Int) > (1048576:Int)))) then
    some true
  else
  ob (spec_MapOf.m N a0) fun y1 =>
  ob (spec_MapKeyOf.m N a1) fun y2 =>
  ob (impl_MapRoot.m N (Branch.mk y1.Key y1.Value y1.At y1.Kids)) fun y3 =>
  ob (impl_ProveKey.m N (Branch.mk y1.Key y1.Value y1.At y1.Kids) y2) fun y4 =>
  ob (spec_ProveKey.m N (Branch.mk y1.Key y1.Value y1.At y1.Kids) y2) fun y5 =>
  ob (impl_MapGet.m N (Branch.mk y1.Key y1.Value y1.At y1.Kids) y2) fun y6 =>
  bif (y3.2 != (0:Int)) then
    some false
  else
  bif (bif false then true else (y4.2 != (0:Int))) then
    some false
  else
  ob (laws_sameProof.m N y4.1 y5.1) fun y7 =>
  bif (bif false then true else (!y7)) then
    some false
  else
  bif (bif false then true else (!(y4.1.Found == (y6.2 == (0:Int))))) then
    some false
  else
  bif y4.1.Found then
    bif (bif false then true else (bif true then (!seq y4.1.Value y6.1) else false)) then
      some false
    else
    ob (impl_CheckKey.m N y3.1 y2 y4.1) fun y8 =>
    bif (bif false then true else (y8 != (0:Int))) then
      some false
    else
    ob (spec_HashOf.m N a1) fun y9 =>
    bif (!seq y9 y3.1) then
      ob (impl_CheckKey.m N y9 y2 y4.1) fun y10 =>
      bif (bif true then (y10 == (0:Int)) else false) then
        some false
      else
      bif (seq y4.1.Key ByteArray.empty) then
        some true
      else
      bif (decide (y4.1.Value.size + (⟨#[120]⟩ : ByteArray).size ≤ 9223372036854775807)) then
      bif (decide (((y4.1.Value ++ (⟨#[120]⟩ : ByteArray)).size : Int) > (60:Int))) then
        some true
      else
      ob (impl_CheckKey.m N y3.1 y2 (MapProof.mk y4.1.Found y4.1.Key (y4.1.Value ++ (⟨#[120]⟩ : ByteArray)) y4.1.Steps)) fun y11 =>
      ob (spec_CheckKey.m N y3.1 y2 (MapProof.mk y4.1.Found y4.1.Key (y4.1.Value ++ (⟨#[120]⟩ : ByteArray)) y4.1.Steps)) fun y12 =>
      some (y11 == y12)
      else none
    else
    bif (seq y4.1.Key ByteArray.empty) then
      some true
    else
    bif (decide (y4.1.Value.size + (⟨#[120]⟩ : ByteArray).size ≤ 9223372036854775807)) then
    bif (decide (((y4.1.Value ++ (⟨#[120]⟩ : ByteArray)).size : Int) > (60:Int))) then
      some true
    else
    ob (impl_CheckKey.m N y3.1 y2 (MapProof.mk y4.1.Found y4.1.Key (y4.1.Value ++ (⟨#[120]⟩ : ByteArray)) y4.1.Steps)) fun y13 =>
    ob (spec_CheckKey.m N y3.1 y2 (MapProof.mk y4.1.Found y4.1.Key (y4.1.Value ++ (⟨#[120]⟩ : ByteArray)) y4.1.Steps)) fun y14 =>
    some (y13 == y14)
    else none
  else
  bif (bif false then true else false) then
    some false
  else
  ob (impl_CheckKey.m N y3.1 y2 y4.1) fun y15 =>
  bif (bif false then true else (y15 != (0:Int))) then
    some false
  else
  ob (spec_HashOf.m N a1) fun y16 =>
  bif (!seq y16 y3.1) then
    ob (impl_CheckKey.m N y16 y2 y4.1) fun y17 =>
    bif (bif true then (y17 == (0:Int)) else false) then
      some false
    else
    bif (seq y4.1.Key ByteArray.empty) then
      some true
    else
    bif (decide (y4.1.Value.size + (⟨#[120]⟩ : ByteArray).size ≤ 9223372036854775807)) then
    bif (decide (((y4.1.Value ++ (⟨#[120]⟩ : ByteArray)).size : Int) > (60:Int))) then
      some true
    else
    ob (impl_CheckKey.m N y3.1 y2 (MapProof.mk y4.1.Found y4.1.Key (y4.1.Value ++ (⟨#[120]⟩ : ByteArray)) y4.1.Steps)) fun y18 =>
    ob (spec_CheckKey.m N y3.1 y2 (MapProof.mk y4.1.Found y4.1.Key (y4.1.Value ++ (⟨#[120]⟩ : ByteArray)) y4.1.Steps)) fun y19 =>
    some (y18 == y19)
    else none
  else
  bif (seq y4.1.Key ByteArray.empty) then
    some true
  else
  bif (decide (y4.1.Value.size + (⟨#[120]⟩ : ByteArray).size ≤ 9223372036854775807)) then
  bif (decide (((y4.1.Value ++ (⟨#[120]⟩ : ByteArray)).size : Int) > (60:Int))) then
    some true
  else
  ob (impl_CheckKey.m N y3.1 y2 (MapProof.mk y4.1.Found y4.1.Key (y4.1.Value ++ (⟨#[120]⟩ : ByteArray)) y4.1.Steps)) fun y20 =>
  ob (spec_CheckKey.m N y3.1 y2 (MapProof.mk y4.1.Found y4.1.Key (y4.1.Value ++ (⟨#[120]⟩ : ByteArray)) y4.1.Steps)) fun y21 =>
  some (y20 == y21)
  else none
theorem run (N : Nat) (o0 : Orc E R) (a0 : List Int) (a1 : List Int) : runF T (G N) live [] Tryz.f3 code (sp N) o0 (a0, a1, ()) = m0 N a0 a1 := by kernel_rfl
theorem G_ok (N : Nat) : GamOK Tryz.prog (G N) := gam_ok (l := [(4, [], spec_MapOf.sp N), (5, [], spec_MapKeyOf.sp N), (6, [], impl_MapRoot.sp N), (7, [], impl_ProveKey.sp N), (8, [], spec_ProveKey.sp N), (9, [], impl_MapGet.sp N), (10, [], laws_sameProof.sp N), (11, [], impl_CheckKey.sp N), (12, [], spec_HashOf.sp N), (13, [], spec_CheckKey.sp N)]) (⟨spec_MapOf.snd N, spec_MapKeyOf.snd N, impl_MapRoot.snd N, impl_ProveKey.snd N, spec_ProveKey.snd N, impl_MapGet.snd N, laws_sameProof.snd N, impl_CheckKey.snd N, spec_HashOf.snd N, spec_CheckKey.snd N, trivial⟩)
theorem snd (N : Nat) : Sound Tryz.prog E 3 (sp N) :=
  Mir.sound T_OK (G_ok N) mixed Tryz.func3 (c := code) (by kernel_rfl) (by kernel_rfl) (sp N) (Nat.le_of_ble_eq_true (by kernel_rfl)) live [] (by
    rintro ⟨a0, a1, _⟩ r h
    exact ⟨N, 2, ((run N _ a0 a1).trans rfl).trans h⟩)
end laws_FnMapProofs
end Mir.Y
