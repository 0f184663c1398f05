/- The mirror machine: regions in whatever order, 1: the trace in text order. -/
import Derived.Test.YtbepkbaemapkjaaMir20
namespace Mir
set_option linter.unusedVariables false
set_option linter.unusedSimpArgs false
open Go
variable {E : Env} {P : Program} {T : Tb} {Γ : Ctx E} {cx : Cx} {G G' : Gh} {S : St E} {tm : Array Value} {a : Act} {W W' : World}

/-! ### What an operation looks at -/
theorem aop_congr {fr : Nat} {ρ ρ' : Nat → Option (AV E)} {op : Op} (h : ∀ x ∈ op.operands, evO ρ x = evO ρ' x) : aop T fr ρ op = aop T fr ρ' op := by
  have pairs : ∀ ps : Array (Nat × Operand), (∀ x ∈ ps.map (·.2), evO ρ x = evO ρ' x) → (ps.toList.map fun p => (p.1, evO ρ p.2)) = (ps.toList.map fun p => (p.1, evO ρ' p.2)) := fun ps hp =>
    List.map_congr_left fun p hm => by rw [hp p.2 (Array.mem_map.2 ⟨p, by simpa using hm, rfl⟩)]
  have lists : ∀ xs : Array Operand, (∀ x ∈ xs, evO ρ x = evO ρ' x) → xs.toList.map (evO ρ) = xs.toList.map (evO ρ') := fun xs hp =>
    List.map_congr_left fun p hm => hp p (by simpa using hm)
  have opts : ∀ (x : Option Operand), (∀ y ∈ x.toArray, evO ρ y = evO ρ' y) → x.map (evO ρ) = x.map (evO ρ') := fun x hx => by
    cases x with
    | none => rfl
    | some y => rw [Option.map_some, Option.map_some, hx y (by simp)]
  cases op <;> simp only [Op.operands] at h <;> (try simp only [aop])
  case makeMap t r => cases r <;> rfl
  case build t ps => rw [pairs ps fun x hx => h x (by simpa using hx)]
  case buildSlice t n ps => rw [pairs ps fun x hx => h x (by simpa using hx)]
  case makeFunc fn first captured => rw [lists first fun x hx => h x (by simp [hx]), lists captured fun x hx => h x (by simp [hx])]
  case slice t x lo hi mx =>
    rw [h x (by simp), opts lo fun y hy => h y (by simp at hy ⊢; simp [hy]), opts hi fun y hy => h y (by simp at hy ⊢; simp [hy]), opts mx fun y hy => h y (by simp at hy ⊢; simp [hy])]
  case call c =>
    have hargs : ∀ x ∈ c.args.toList, evO ρ x = evO ρ' x := fun x hx => h x (by simp [Call.operands]; right; simpa using hx)
    split <;> try rfl
    all_goals (split <;> try rfl)
    all_goals (rename_i hxs; first | rw [hxs] at hargs | (rename_i h1 _; rw [h1] at hargs) | (rename_i h1; rw [h1] at hargs))
    all_goals simp at hargs
    all_goals simp [hargs]
  all_goals first | rfl | (simp at h; simp [h]; done)
theorem dop_congr {fr : Nat} {ρ ρ' : Nat → Option (AV E)} {op : Op} (h : ∀ x ∈ op.operands, evO ρ x = evO ρ' x) : dop T fr ρ op = dop T fr ρ' op := by
  have ha := aop_congr (T := T) (fr := fr) h
  cases op <;> simp only [Op.operands] at h
  case indexAddr t x i => simp only [dop]; rw [h x (by simp), h i (by simp), ha]
  case load t x => simp only [dop]; rw [h x (by simp), ha]
  case store t x v => simp only [dop]; rw [h x (by simp), h v (by simp), ha]
  case makeSlice t lo co => simp only [dop]; rw [h lo (by simp), h co (by simp), ha]
  case buildSlice t n ps =>
    have pairs : (ps.toList.map fun p => (p.1, evO ρ p.2)) = (ps.toList.map fun p => (p.1, evO ρ' p.2)) :=
      List.map_congr_left fun p hm => by rw [h p.2 (by simpa using ⟨p.1, by simpa using hm⟩)]
    simp only [dop]; rw [pairs, ha]
  case call c =>
    have hargs : ∀ x ∈ c.args.toList, evO ρ x = evO ρ' x := fun x hx => h x (by simp [Call.operands]; right; simpa using hx)
    simp only [dop]
    split
    · split
      · rename_i x hxs
        rw [hargs x (by rw [hxs]; simp), ha]
      · exact ha
    · split
      · split
        · rename_i t u hts e s helem
          cases T.deep && !(Ty.st s).flat1 E with
          | true =>
            simp only [cond_true]
            split
            · rename_i x y hxs
              rw [hargs x (by rw [hxs]; simp), hargs y (by rw [hxs]; simp)]
            · rfl
          | false => exact ha
        · exact ha
      · exact ha
    · exact ha
  all_goals exact ha
theorem aopC_congr {fr : Nat} {ρ ρ' : Nat → Option (AV E)} {op : Op} (h : ∀ x ∈ op.operands, evO ρ x = evO ρ' x) : aopC T Γ fr ρ op = aopC T Γ fr ρ' op := by
  have ha := dop_congr (T := T) (fr := fr) h
  cases op
  case call c =>
    simp only [Op.operands] at h
    have lists : ∀ xs : Array Operand, (∀ x ∈ xs, evO ρ x = evO ρ' x) → xs.toList.map (evO ρ) = xs.toList.map (evO ρ') := fun xs hp =>
      List.map_congr_left fun p hm => hp p (by simpa using hm)
    have hargs : ∀ x ∈ c.args.toList, evO ρ x = evO ρ' x := fun x hx => h x (by simp [Call.operands]; right; simpa using hx)
    simp only [aopC]
    split
    · rename_i f hf
      rw [h f (by simp [Call.operands, hf]), lists c.args fun x hx => hargs x (by simpa using hx)]
    · exact ha
  all_goals exact ha
theorem RM.Out_mono {α : Type} {H : Nat → Option (Blk E)} {m : RM E α} : ∀ {l : List Nat} {x : α} {l' : List Nat}, RM.Out H m l x l' → ∀ i ∈ l, i ∈ l' := by
  induction m with
  | pure a => rintro l x l' ⟨rfl, rfl⟩ i hi; exact hi
  | fail => intro l x l' h; exact h.elim
  | rd id k ih => rintro l x l' ⟨b, hb, h⟩ i hi; exact ih b h i (List.mem_cons_of_mem _ hi)
  | chk b k ih => rintro l x l' ⟨hb, h⟩ i hi; exact ih h i hi
  | call m k ih => rintro l x l' ⟨b, hb, h⟩ i hi; exact ih b h i hi
theorem RM.Out_local {α : Type} {H H' : Nat → Option (Blk E)} {m : RM E α} : ∀ {l : List Nat} {x : α} {l' : List Nat}, RM.Out H m l x l' → (∀ i ∈ l', H' i = H i) → RM.Out H' m l x l' := by
  induction m with
  | pure a => rintro l x l' h _; exact h
  | fail => intro l x l' h; exact h.elim
  | rd id k ih => rintro l x l' ⟨b, hb, h⟩ hl; exact ⟨b, by rw [hl id (RM.Out_mono h id (List.mem_cons_self ..))]; exact hb, ih b h hl⟩
  | chk b k ih => rintro l x l' ⟨hb, h⟩ hl; exact ⟨hb, ih h hl⟩
  | call m k ih => rintro l x l' ⟨b, hb, h⟩ hl; exact ⟨b, hb, ih b h hl⟩
theorem RM.Out_live {α : Type} {H : Nat → Option (Blk E)} {m : RM E α} : ∀ {l : List Nat} {x : α} {l' : List Nat}, RM.Out H m l x l' → ∀ i ∈ l', i ∈ l ∨ ∃ b, H i = some b := by
  induction m with
  | pure a => rintro l x l' ⟨rfl, rfl⟩ i hi; exact .inl hi
  | fail => intro l x l' h; exact h.elim
  | rd id k ih =>
    rintro l x l' ⟨b, hb, h⟩ i hi
    rcases ih b h i hi with h | h
    · rcases List.mem_cons.1 h with rfl | h
      · exact .inr ⟨b, hb⟩
      · exact .inl h
    · exact .inr h
  | chk b k ih => rintro l x l' ⟨hb, h⟩ i hi; exact ih h i hi
  | call m k ih => rintro l x l' ⟨b, hb, h⟩ i hi; exact ih b h i hi

/-! ### The trace -/
structure Rc (E : Env) where
  d : Option Nat
  v : AV E
  u : Up E
  rs : List Nat
  ex : Bool
def slots : List (Rc E) → List (Nat × AV E)
  | [] => []
  | r :: L => match r.d with | some d => (d, r.v) :: slots L | none => slots L
def heaps : List (Rc E) → Up E
  | [] => []
  | r :: L => r.u ++ heaps L
def St.app (S : St E) (L : List (Rc E)) : St E := { S with ρ := slots L ++ S.ρ, H := heaps L ++ S.H }
/-- The records of the operations ahead of number n that X picks, the last in the text first. -/
def sub (X : Nat → Bool) (R : Nat → Rc E) : Nat → List (Rc E)
  | 0 => []
  | n + 1 => bif X n then R n :: sub X R n else sub X R n
abbrev pre (R : Nat → Rc E) (n : Nat) : List (Rc E) := sub (fun _ => true) R n
def stepsOf (R : Nat → Rc E) : Nat → List Step
  | 0 => []
  | n + 1 => bif (R n).ex then ⟨n, (R n).u.map (·.1), (R n).rs⟩ :: stepsOf R n else stepsOf R n
theorem sub_congr {X : Nat → Bool} {R R' : Nat → Rc E} : ∀ {n : Nat}, (∀ i, i < n → R i = R' i) → sub X R n = sub X R' n
  | 0, _ => rfl
  | n + 1, h => by simp only [sub]; rw [h n (Nat.lt_succ_self _), sub_congr fun i hi => h i (Nat.lt_succ_of_lt hi)]
theorem steps_congr {R R' : Nat → Rc E} : ∀ {n : Nat}, (∀ i, i < n → R i = R' i) → stepsOf R n = stepsOf R' n
  | 0, _ => rfl
  | n + 1, h => by simp only [stepsOf]; rw [h n (Nat.lt_succ_self _), steps_congr fun i hi => h i (Nat.lt_succ_of_lt hi)]
section
variable (T : Tb) (Γ : Ctx E) (all : Array Oper) (nx : Nat) (S0 : St E)
/-- What a record says. -/
def GuardOK (ρ : Nat → Option (AV E)) (o : Oper) (r : Rc E) : Prop :=
  (r.ex = true ∧ (o.guard = none ∨ ∃ j want d, o.guard = some (j, want) ∧ (all[j]?).bind (·.dst) = some d ∧ ρ d = some (.bool want))) ∨
  (r.ex = false ∧ r.v = .a .undef ∧ r.u = [] ∧ ∃ j want d, o.guard = some (j, want) ∧ (all[j]?).bind (·.dst) = some d ∧ (ρ d = some (.bool (!want)) ∨ ρ d = some (.a .undef)))
structure RecOK (S : St E) (i : Nat) (o : Oper) (r : Rc E) : Prop where
  d : r.d = o.dst
  dst : ∀ d, o.dst = some d → d < S0.n ∧ ∀ s ∈ S0.pin, s ≠ d
  guard : GuardOK all (lk S.ρ) o r
  out : r.ex = true → RM.Out S.h (aopC T Γ (nx + STR * i) (lk S.ρ) o.op) [] (r.v, r.u) r.rs
  keys : ∀ p ∈ r.u, p.1 ∈ r.rs ∨ (nx + STR * i ≤ p.1 ∧ p.1 < nx + STR * i + STR)
end
structure Like (S S' : St E) : Prop where
  ρ : ∀ s, lk S.ρ s = lk S'.ρ s
  H : S.H = S'.H
  n : S.n = S'.n
  pin : S.pin = S'.pin
  nx : S.nx = S'.nx
theorem Like.fρ {S S' : St E} (h : Like S S') : lk S.ρ = lk S'.ρ := funext h.ρ
theorem Like.fh {S S' : St E} (h : Like S S') : S.h = S'.h := by funext id; unfold St.h; rw [h.H]
theorem app_cons (S0 : St E) (r : Rc E) (L : List (Rc E)) : (∀ s, lk (S0.app (r :: L)).ρ s = if r.d = some s then some r.v else lk (S0.app L).ρ s) ∧ (S0.app (r :: L)).H = r.u ++ (S0.app L).H := by
  constructor
  · intro s
    unfold St.app
    simp only [slots]
    cases hd : r.d with
    | none => simp
    | some d =>
      simp only [List.cons_append, lk_cons, Option.some.injEq]
  · simp [St.app, heaps]
variable {R : Type}
/-- The record that is made. -/
theorem put_like {S0 S S2 : St E} {L : List (Rc E)} {o : Oper} {r : Rc E} {K : St E → Option R} {x : R} (hl : Like S (S0.app L)) (hd : r.d = o.dst) (hS2 : S2 = { S with H := r.u ++ S.H }) (h : putK S2 o.dst r.v K = some x) :
    (∀ d, o.dst = some d → d < S0.n ∧ ∀ s ∈ S0.pin, s ≠ d) ∧ ∃ S', K S' = some x ∧ Like S' (S0.app (r :: L)) := by
  subst hS2
  obtain ⟨a1, a2⟩ := app_cons S0 r L
  have hn : S.n = S0.n := hl.n
  have hp : S.pin = S0.pin := hl.pin
  unfold putK at h
  cases ho : o.dst with
  | none =>
    rw [ho] at h
    refine ⟨fun d h => (by cases h), _, h, ⟨fun s => ?_, ?_, hl.n, hl.pin, hl.nx⟩⟩
    · rw [a1 s, hd, ho, if_neg (by simp)]; exact hl.ρ s
    · rw [a2]; show r.u ++ S.H = _; rw [hl.H]
  | some d =>
    rw [ho] at h
    dsimp only at h
    cases hc : (Nat.blt d S.n && !S.pin.any (Nat.beq d)) with
    | false => rw [hc] at h; cases h
    | true =>
      rw [hc, cond_true] at h
      simp only [Bool.and_eq_true, Bool.not_eq_true'] at hc
      refine ⟨fun d' h => ?_, _, h, ⟨fun s => ?_, ?_, hl.n, hl.pin, hl.nx⟩⟩
      · cases h
        exact ⟨by rw [← hn]; exact Nat.le_of_ble_eq_true hc.1, by rw [← hp]; exact any_beq hc.2⟩
      · rw [a1 s, hd, ho]
        show lk ((d, r.v) :: S.ρ) s = _
        rw [lk_cons]
        simp only [Option.some.injEq]
        split
        · rfl
        · exact hl.ρ s
      · rw [a2]; show r.u ++ S.H = _; rw [hl.H]
theorem trace {all : Array Oper} {nx : Nat} {S0 : St E} {K : St E → List Step → Option R} {x : R} : ∀ (ops : List Oper) (i : Nat) (S : St E) (R0 : Nat → Rc E), Like S (S0.app (pre R0 i)) → runOps T Γ all nx ops i S (stepsOf R0 i) K = some x →
    ∃ R' S', (∀ j, j < i → R' j = R0 j) ∧ (∀ j o, ops[j]? = some o → RecOK T Γ all nx S0 (S0.app (pre R' (i + j))) (i + j) o (R' (i + j))) ∧ Like S' (S0.app (pre R' (i + ops.length))) ∧ K S' (stepsOf R' (i + ops.length)) = some x
  | [], i, S, R0, hl, h => ⟨R0, S, fun _ _ => rfl, fun j o h => by simp at h, hl, h⟩
  | o :: rest, i, S, R0, hl, h => by
    -- behind the first operation, with its record
    have fin : ∀ (r : Rc E) (S' : St E), r.d = o.dst → (∀ d, o.dst = some d → d < S0.n ∧ ∀ s ∈ S0.pin, s ≠ d) → GuardOK all (lk S.ρ) o r → (r.ex = true → RM.Out S.h (aopC T Γ (nx + STR * i) (lk S.ρ) o.op) [] (r.v, r.u) r.rs) → (∀ p ∈ r.u, p.1 ∈ r.rs ∨ (nx + STR * i ≤ p.1 ∧ p.1 < nx + STR * i + STR)) →
        Like S' (S0.app (r :: pre R0 i)) → runOps T Γ all nx rest (i + 1) S' (bif r.ex then ⟨i, r.u.map (·.1), r.rs⟩ :: stepsOf R0 i else stepsOf R0 i) K = some x →
        ∃ R' S', (∀ j, j < i → R' j = R0 j) ∧ (∀ j o', (o :: rest)[j]? = some o' → RecOK T Γ all nx S0 (S0.app (pre R' (i + j))) (i + j) o' (R' (i + j))) ∧ Like S' (S0.app (pre R' (i + (o :: rest).length))) ∧ K S' (stepsOf R' (i + (o :: rest).length)) = some x := by
      intro r S' h1 h2 h3 h4 h5 h6 h7
      let R1 : Nat → Rc E := fun j => if j = i then r else R0 j
      have e1 : ∀ j, j < i → R1 j = R0 j := fun j hj => if_neg (by omega)
      have e2 : R1 i = r := if_pos rfl
      have e3 : pre R1 (i + 1) = r :: pre R0 i := by
        show (bif true then R1 i :: sub _ R1 i else _) = _
        rw [cond_true, e2, sub_congr e1]
      have e4 : stepsOf R1 (i + 1) = (bif r.ex then ⟨i, r.u.map (·.1), r.rs⟩ :: stepsOf R0 i else stepsOf R0 i) := by
        simp only [stepsOf]
        rw [e2, steps_congr e1]
      obtain ⟨R', S2, i1, i2, i3, i4⟩ := trace rest (i + 1) S' R1 (by rw [e3]; exact h6) (by rw [e4]; exact h7)
      have e5 : ∀ j, j < i → R' j = R0 j := fun j hj => (i1 j (by omega)).trans (e1 j hj)
      have e6 : R' i = r := (i1 i (by omega)).trans e2
      have hlen : i + 1 + rest.length = i + (o :: rest).length := by simp; omega
      rw [hlen] at i3 i4
      refine ⟨R', S2, e5, fun j o' hj => ?_, i3, i4⟩
      cases j with
      | zero =>
        simp only [List.getElem?_cons_zero, Option.some.injEq] at hj
        subst hj
        rw [Nat.add_zero, e6, show pre R' i = pre R0 i from sub_congr e5]
        exact ⟨h1, h2, by rw [← hl.fρ]; exact h3, by rw [← hl.fρ, ← hl.fh]; exact h4, h5⟩
      | succ j =>
        have := i2 j o' (by simpa using hj)
        rw [show i + (j + 1) = i + 1 + j by omega]
        exact this
    have exec : ∀ (S1 : St E), Like S1 (S0.app (pre R0 i)) → (o.guard = none ∨ ∃ j want d, o.guard = some (j, want) ∧ (all[j]?).bind (·.dst) = some d ∧ lk S.ρ d = some (.bool want)) → runOp T Γ i o nx S1 (stepsOf R0 i) (fun S l => runOps T Γ all nx rest (i + 1) S l K) = some x →
        ∃ R' S', (∀ j, j < i → R' j = R0 j) ∧ (∀ j o', (o :: rest)[j]? = some o' → RecOK T Γ all nx S0 (S0.app (pre R' (i + j))) (i + j) o' (R' (i + j))) ∧ Like S' (S0.app (pre R' (i + (o :: rest).length))) ∧ K S' (stepsOf R' (i + (o :: rest).length)) = some x := by
      intro S1 hl1 hg h
      unfold runOp at h
      obtain ⟨y, rds, h1, h2⟩ := RM.run_out h
      cases hc : (y.2.map (·.1)).all fun k => rds.any (Nat.beq k) || (Nat.ble (nx + STR * i) k && Nat.blt k (nx + STR * i + STR)) with
      | false => rw [hc] at h2; cases h2
      | true =>
        rw [hc, cond_true] at h2
        obtain ⟨h3, S', h4, h5⟩ := put_like (r := ⟨o.dst, y.1, y.2, rds, true⟩) hl1 rfl rfl h2
        refine fin ⟨o.dst, y.1, y.2, rds, true⟩ S' rfl h3 (.inl ⟨rfl, hg⟩) (fun _ => ?_) (fun p hp => ?_) h5 h4
        · rw [hl.fρ, hl.fh, ← hl1.fρ, ← hl1.fh]; exact h1
        · have := List.all_eq_true.1 hc p.1 (List.mem_map.2 ⟨p, hp, rfl⟩)
          simp only [Bool.or_eq_true, Bool.and_eq_true] at this
          rcases this with h | h
          · obtain ⟨k', hk', hb⟩ := List.any_eq_true.1 h
            obtain rfl := Nat.eq_of_beq_eq_true hb
            exact .inl hk'
          · exact .inr ⟨Nat.le_of_ble_eq_true h.1, Nat.le_of_ble_eq_true h.2⟩
    have skip : ∀ (S1 : St E), Like S1 (S0.app (pre R0 i)) → (∃ j want d, o.guard = some (j, want) ∧ (all[j]?).bind (·.dst) = some d ∧ (lk S.ρ d = some (.bool (!want)) ∨ lk S.ρ d = some (.a .undef))) → skipOp o S1 (stepsOf R0 i) (fun S l => runOps T Γ all nx rest (i + 1) S l K) = some x →
        ∃ R' S', (∀ j, j < i → R' j = R0 j) ∧ (∀ j o', (o :: rest)[j]? = some o' → RecOK T Γ all nx S0 (S0.app (pre R' (i + j))) (i + j) o' (R' (i + j))) ∧ Like S' (S0.app (pre R' (i + (o :: rest).length))) ∧ K S' (stepsOf R' (i + (o :: rest).length)) = some x := by
      intro S1 hl1 hg h
      unfold skipOp at h
      obtain ⟨h3, S', h4, h5⟩ := put_like (r := ⟨o.dst, .a .undef, [], [], false⟩) hl1 rfl rfl h
      exact fin ⟨o.dst, .a .undef, [], [], false⟩ S' rfl h3 (.inr ⟨rfl, rfl, rfl, hg⟩) (fun h => by cases h) (fun p hp => by cases hp) h5 h4
    have refined : ∀ {d : Nat} {b : AV E}, lk S.ρ d = some b → Like { S with ρ := (d, b) :: S.ρ } (S0.app (pre R0 i)) := by
      intro d b hb
      refine ⟨fun s => ?_, hl.H, hl.n, hl.pin, hl.nx⟩
      show lk ((d, b) :: S.ρ) s = _
      rw [lk_cons]
      split
      · rename_i e; subst e; rw [← hb]; exact hl.ρ d
      · exact hl.ρ s
    unfold runOps at h
    cases hg : o.guard with
    | none => rw [hg] at h; exact exec S hl (.inl hg) h
    | some gw =>
      obtain ⟨j, want⟩ := gw
      rw [hg] at h
      dsimp only at h
      cases hd : (all[j]?).bind (·.dst) with
      | none => rw [hd] at h; cases h
      | some d =>
        rw [hd] at h
        dsimp only at h
        split at h
        · rename_i b hlk
          cases hdn : Nat.blt d S.n with
          | false => rw [hdn] at h; cases h
          | true =>
            rw [hdn] at h
            cases b <;> cases want <;> simp only [cond_true, cond_false] at h
            · exact exec _ (refined hlk) (.inr ⟨j, _, d, hg, hd, hlk⟩) h
            · exact skip _ (refined hlk) ⟨j, _, d, hg, hd, .inl hlk⟩ h
            · exact skip _ (refined hlk) ⟨j, _, d, hg, hd, .inl hlk⟩ h
            · exact exec _ (refined hlk) (.inr ⟨j, _, d, hg, hd, hlk⟩) h
        · rename_i hlk
          exact skip S hl ⟨j, _, d, hg, hd, .inr hlk⟩ h
        · cases h
end Mir
