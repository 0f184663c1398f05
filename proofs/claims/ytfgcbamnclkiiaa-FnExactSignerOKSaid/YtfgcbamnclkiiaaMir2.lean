/- The mirror machine: states, calls by their specifications, code. -/
import Derived.Test.YtfgcbamnclkiiaaMir1
namespace Mir
set_option linter.unusedVariables false
open Go
variable {E : Env}

/-! ### Specifications of functions -/
inductive Par where
  | val (t : Ty)
  | mut (t : Ty)
  | box (n : Nat)
  | clo (f : FuncId) (caps : List Ty)
@[reducible] def Par.I (E : Env) : Par → Type
  | .val t => Ty.D E.S t
  | .mut t => Ty.D E.S t
  | .box n => E.S n
  | .clo _ caps => HT E.S caps
@[reducible] def Par.O (E : Env) : Par → Type
  | .val _ => Unit
  | .mut t => Ty.D E.S t
  | .box n => E.S n
  | .clo _ _ => Unit
@[reducible] def IT (E : Env) : List Par → Type
  | [] => Unit
  | p :: ps => p.I E × IT E ps
@[reducible] def OT (E : Env) : List Par → Type
  | [] => Unit
  | p :: ps => p.O E × OT E ps
structure Spec (E : Env) where
  ps : List Par
  rs : List Ty
  own : Bool
  R : Type
  fn : IT E ps → Option R
  res : R → HT E.S rs
  out : R → OT E ps
  shut : HT E.S rs → OT E ps → R
  res_shut : ∀ a b, res (shut a b) = a
  out_shut : ∀ a b, out (shut a b) = b
def Ty.flat : Ty → Bool
  | .slice _ _ => false
  | _ => true
/-- A type whose rows lead to no rows. -/
def flatRows (E : Env) : Ty → Bool
  | .slice _ (.st n) => (E.fl n).all Ty.flat
  | .slice _ t => t.flat
  | .st n => (E.fl n).all fun
    | .slice _ (.st m) => (E.fl m).all Ty.flat
    | .slice _ t => t.flat
    | _ => true
  | _ => true
def Par.flat (E : Env) : Par → Bool
  | .mut t => flatRows E t
  | .box n => flatRows E (.st n)
  | _ => true
def Spec.fz (s : Spec E) : Bool := !(s.own && s.rs.all (flatRows E) && s.ps.all (Par.flat E))

def Par.still : Par → Bool
  | .val _ => true
  | .clo _ _ => true
  | _ => false
theorem OT.one : ∀ (ps : List Par), ps.all Par.still = true → ∀ a b : OT E ps, a = b
  | [], _, _, _ => rfl
  | .val _ :: ps, h, (a, x), (b, y) => by rw [show a = b from rfl, OT.one ps (by simpa [Par.still] using h) x y]
  | .clo _ _ :: ps, h, (a, x), (b, y) => by rw [show a = b from rfl, OT.one ps (by simpa [Par.still] using h) x y]
  | .mut _ :: _, h, _, _ => by simp [Par.still] at h
  | .box _ :: _, h, _, _ => by simp [Par.still] at h
/-- A function of one result that writes into no argument. -/
@[reducible] def Spec.one (ps : List Par) (r : Ty) (own : Bool) (h : OT E ps) (hu : ps.all Par.still = true) (fn : IT E ps → Option (Ty.D E.S r)) : Spec E :=
  { ps := ps, rs := [r], own := own, R := Ty.D E.S r, fn := fn, res := fun x => (x, ()), out := fun _ => h, shut := fun a _ => a.1, res_shut := fun _ _ => rfl, out_shut := fun _ b => OT.one ps hu h b }

/-! ### Arguments in, results out -/
def ofCvs (E : Env) : (ts : List Ty) → List (Cv E) → RM E (HT E.S ts)
  | [], [] => .pure ()
  | t :: ts, v :: vs => (ofCv E t v).bind fun d => (ofCvs E ts vs).bind fun r => .pure (d, r)
  | _, _ => .fail
/-- Cells all of whose slices are whole rows that may be written. -/
def ownAll : List (At E) → RM E (List Nat)
  | [] => .pure []
  | .own id :: r => .rd id fun
    | .row _ _ _ false => (ownAll r).bind fun l => .pure (id :: l)
    | _ => .fail
  | .sub _ _ _ :: _ => .fail
  | .ro _ _ _ :: _ => .fail
  | .dead :: _ => .fail
  | .ptr _ _ :: _ => .fail
  | .eptr _ _ _ :: _ => .fail
  | .undef :: _ => .fail
  | .int _ _ :: r => ownAll r
  | .bool _ :: r => ownAll r
  | .str _ :: r => ownAll r
  | .nils :: r => ownAll r
  | .nilp :: _ => .fail
/-- What is read of the arguments: the data; rows to be frozen; blocks that may be written; rows that go. -/
structure Inp (E : Env) (A : Type) where
  x : A
  u : Up E
  m : List Nat
def inp (E : Env) : (ps : List Par) → List (AV E) → RM E (Inp E (IT E ps))
  | [], [] => .pure ⟨(), [], []⟩
  | .val t :: ps, .c v :: vs => bif v.cells.all okAt then (ofCv E t v).bind fun d => (frz v.cells).bind fun u => (inp E ps vs).bind fun q => .pure ⟨(d, q.x), u ++ q.u, q.m⟩ else .fail
  | .mut t :: ps, .c v :: vs => (ofCv E t v).bind fun d => (ownAll v.cells).bind fun m => (inp E ps vs).bind fun q => .pure ⟨(d, q.x), q.u, m ++ q.m⟩
  | .box n :: ps, .c (.at (.ptr id 0)) :: vs => .rd id fun
    | .box t cells => bif Nat.beq t n then (ofAts E (E.fl n) cells).bind fun h => (ownAll cells).bind fun m => (inp E ps vs).bind fun q => .pure ⟨(E.shut n h, q.x), q.u, id :: m ++ q.m⟩ else .fail
    | _ => .fail
  | .clo f caps :: ps, .clo g cs :: vs => bif Nat.beq f g && cs.all fun c => c.cells.all okAt then (ofCvs E caps cs).bind fun h => (frz (cs.flatMap Cv.cells)).bind fun u => (inp E ps vs).bind fun q => .pure ⟨(h, q.x), u ++ q.u, q.m⟩ else .fail
  | _, _ => .fail
/-- Cells of data; slices as new rows from number fr on. -/
def newAts (E : Env) : (ts : List Ty) → HT E.S ts → (fr : Nat) → List (At E) × Up E × Nat
  | [], _, fr => ([], [], fr)
  | .slice e t :: ts, h, fr => let q := newAts E ts h.2 (fr + 1); (.own fr :: q.1, (fr, .row e t h.1 false) :: q.2.1, q.2.2)
  | .int k :: ts, h, fr => let q := newAts E ts h.2 fr; (.int k h.1 :: q.1, q.2)
  | .bool :: ts, h, fr => let q := newAts E ts h.2 fr; (.bool h.1 :: q.1, q.2)
  | .str :: ts, h, fr => let q := newAts E ts h.2 fr; (.str h.1 :: q.1, q.2)
  | .st _ :: ts, h, fr => let q := newAts E ts h.2 fr; (.dead :: q.1, q.2)
def newCv (E : Env) : (t : Ty) → Ty.D E.S t → (fr : Nat) → Cv E × Up E × Nat
  | .st n, x, fr => let q := newAts E (E.fl n) (E.opn n x) fr; (.agg q.1, q.2)
  | .slice e t, xs, fr => (.at (.own fr), [(fr, .row e t xs false)], fr + 1)
  | .int k, x, fr => (.at (.int k x), [], fr)
  | .bool, x, fr => (.at (.bool x), [], fr)
  | .str, x, fr => (.at (.str x), [], fr)
def newCvs (E : Env) : (ts : List Ty) → HT E.S ts → (fr : Nat) → List (Cv E) × Up E × Nat
  | [], _, fr => ([], [], fr)
  | t :: ts, h, fr => let a := newCv E t h.1 fr; let q := newCvs E ts h.2 a.2.2; (a.1 :: q.1, a.2.1 ++ q.2.1, q.2.2)
def roCvs (E : Env) : (ts : List Ty) → HT E.S ts → List (Cv E)
  | [], _ => []
  | t :: ts, h => toCv E t h.1 :: roCvs E ts h.2
/-- What a mutable argument holds behind the call. -/
def backAts (E : Env) : (ts : List Ty) → HT E.S ts → List (At E) → Up E
  | .slice e t :: ts, h, .own id :: xs => (id, .row e t h.1 false) :: backAts E ts h.2 xs
  | _ :: ts, h, _ :: xs => backAts E ts h.2 xs
  | _, _, _ => []
def backCv (E : Env) : (t : Ty) → Ty.D E.S t → Cv E → Up E
  | .st n, x, .agg xs => backAts E (E.fl n) (E.opn n x) xs
  | .slice e t, xs, .at (.own id) => [(id, .row e t xs false)]
  | _, _, _ => []
def outp (E : Env) : (ps : List Par) → OT E ps → List (AV E) → (fr : Nat) → Up E × Nat
  | .mut t :: ps, o, .c v :: vs, fr => let q := outp E ps o.2 vs fr; (backCv E t o.1 v ++ q.1, q.2)
  | .box n :: ps, o, .c (.at (.ptr id 0)) :: vs, fr => let a := newAts E (E.fl n) (E.opn n o.1) fr; let q := outp E ps o.2 vs a.2.2; ((id, .box n a.1) :: a.2.1 ++ q.1, q.2)
  | .val _ :: ps, o, _ :: vs, fr => outp E ps o.2 vs fr
  | .clo _ _ :: ps, o, _ :: vs, fr => outp E ps o.2 vs fr
  | _, _, _, fr => ([], fr)
def STR : Nat := 64
def meets (a b : List Nat) : Bool := a.any fun x => b.any (Nat.beq x)
def nodupB : List Nat → Bool
  | [] => true
  | x :: r => !(r.any (Nat.beq x)) && nodupB r
def tupOf : List (Cv E) → AV E
  | [v] => .c v
  | vs => .tup vs
def acall (s : Spec E) (fr : Nat) (args : List (AV E)) : RM E (Res E) :=
  (inp E s.ps args).bind fun q => bif nodupB q.m && !meets (q.u.map (·.1)) q.m then .call (s.fn q.x) fun r =>
    let R := bif s.own then newCvs E s.rs (s.res r) fr else (roCvs E s.rs (s.res r), [], fr)
    let O := outp E s.ps (s.out r) args R.2.2
    bif Nat.ble O.2 (fr + STR) then .pure (tupOf R.1, R.2.1 ++ (O.1 ++ ((q.m.map fun i => (i, .gone)) ++ (bif s.fz then q.u else [])))) else .fail
  else .fail

/-! ### States -/
structure St (E : Env) where
  ρ : List (Nat × AV E)
  H : List (Nat × Blk E)
  nx : Nat
  n : Nat
  pin : List Nat
def St.h (S : St E) (id : Nat) : Option (Blk E) := match lk S.H id with
  | some .gone => none
  | x => x
def putK {R : Type} (S : St E) (d : Option Nat) (v : AV E) (K : St E → Option R) : Option R := match d with
  | none => K S
  | some d => bif Nat.blt d S.n && !S.pin.any (Nat.beq d) then K { S with ρ := (d, v) :: S.ρ } else none
def St.refine (S : St E) : Operand → Bool → St E
  | .tmp t, b => { S with ρ := (t, .bool b) :: S.ρ }
  | _, _ => S

abbrev Ctx (E : Env) := FuncId → List FuncId → Option (Spec E)
def closOf : List (AV E) → List FuncId
  | [] => []
  | .clo f _ :: r => f :: closOf r
  | _ :: r => closOf r
def avs : List (Option (AV E)) → Option (List (AV E))
  | [] => some []
  | some v :: r => (avs r).map (v :: ·)
  | none :: _ => none
def aopC (T : Tb) (Γ : Ctx E) (fr : Nat) (ρ : Nat → Option (AV E)) : Op → RM E (Res E)
  | .call c => match c.callee with
    | .value f => match evO ρ f, avs (c.args.toList.map (evO ρ)) with
      | some (.clo g caps), some vs => match Γ g (closOf vs) with
        | some s => acall s fr (vs ++ caps.map .c)
        | none => .fail
      | _, _ => .fail
    | _ => aop T fr ρ (.call c)
  | op => aop T fr ρ op

structure Step where
  i : Nat
  ws : List Nat
  rs : List Nat

variable {R : Type}
section
variable (T : Tb) (Γ : Ctx E)
def runOp (i : Nat) (o : Oper) (nx : Nat) (S : St E) (l : List Step) (K : St E → List Step → Option R) : Option R :=
  (aopC T Γ (nx + STR * i) (lk S.ρ) o.op).run S.h [] fun r rds =>
    bif (r.2.map (·.1)).all fun k => rds.any (Nat.beq k) || (Nat.ble (nx + STR * i) k && Nat.blt k (nx + STR * i + STR)) then
      putK { S with H := r.2 ++ S.H } o.dst r.1 fun S' => K S' (⟨i, r.2.map (·.1), rds⟩ :: l)
    else none
def skipOp (o : Oper) (S : St E) (l : List Step) (K : St E → List Step → Option R) : Option R :=
  putK S o.dst (.a .undef) fun S' => K S' l
def runOps (all : Array Oper) (nx : Nat) : List Oper → Nat → St E → List Step → (St E → List Step → Option R) → Option R
  | [], _, S, l, K => K S l
  | o :: rest, i, S, l, K => match o.guard with
    | none => runOp T Γ i o nx S l fun S l => runOps all nx rest (i + 1) S l K
    | some (j, want) => match (all[j]?).bind (·.dst) with
      | none => none
      | some d => match lk S.ρ d with
        | some (.c (.at (.bool b))) => bif Nat.blt d S.n then
            (bif b then
              (bif want then runOp T Γ i o nx { S with ρ := (d, .bool true) :: S.ρ } l fun S l => runOps all nx rest (i + 1) S l K
               else skipOp o { S with ρ := (d, .bool true) :: S.ρ } l fun S l => runOps all nx rest (i + 1) S l K)
            else
              (bif want then skipOp o { S with ρ := (d, .bool false) :: S.ρ } l fun S l => runOps all nx rest (i + 1) S l K
               else runOp T Γ i o nx { S with ρ := (d, .bool false) :: S.ρ } l fun S l => runOps all nx rest (i + 1) S l K))
            else none
        | some (.c (.at .undef)) => skipOp o S l fun S l => runOps all nx rest (i + 1) S l K
        | _ => none

/-- Which operations must have been done ahead of each. -/
def befBits (acc : List Nat) (o : Oper) : Nat := o.after.toList.foldl (fun s e => bif Region.binds .any e then (s ||| 2 ^ e.on) ||| acc.getD e.on 0 else s) 0
def befGo : List Oper → List Nat → List Nat
  | [], acc => acc
  | o :: r, acc => befGo r (acc ++ [befBits acc o])
def befores (ops : List Oper) : List Nat := befGo ops []
def edgesOK : List Oper → Nat → Bool
  | [], _ => true
  | o :: r, i => (o.after.toList.all fun e => !Region.binds .any e || Nat.blt e.on i) && edgesOK r (i + 1)
def namesOf (all : Array Oper) (o : Oper) : List Nat := o.dst.toList ++ o.looksAt all
def sepSteps (b : List Nat) (x y : Step) : Bool :=   -- x later in the text than y
  Nat.testBit (b.getD x.i 0) y.i || (!meets x.ws y.ws && !meets x.ws y.rs && !meets x.rs y.ws)
def indepSteps (b : List Nat) : List Step → Bool
  | [] => true
  | x :: r => r.all (sepSteps b x) && indepSteps b r
def indepNames (all : Array Oper) (b : List Nat) : Bool :=
  (List.range all.size).all fun i => (List.range i).all fun j => match all[i]?, all[j]? with
    | some x, some y => Nat.testBit (b.getD i 0) j || x.apart all y
    | _, _ => false
def indep (all : Array Oper) (l : List Step) : Bool := let b := befores all.toList; indepSteps b l && indepNames all b && edgesOK all.toList 0

def runRegion (ops : Array Oper) (draw : Bool) (S : St E) (K : St E → Option R) : Option R :=
  runOps T Γ ops S.nx ops.toList 0 S [] fun S' l =>
    bif !draw || indep ops l then K { S' with nx := S.nx + STR * ops.size } else none
end

/-! ### The state at a loop's head -/
def idsAt : At E → List Nat
  | .own id => [id]
  | .sub id _ _ => [id]
  | .ptr id _ => [id]
  | .eptr id _ _ => [id]
  | _ => []
def idsCv : Cv E → List Nat
  | .at x => idsAt x
  | .agg xs => xs.flatMap idsAt
  | .arr _ _ _ => []
def idsAV : AV E → List Nat
  | .c v => idsCv v
  | .rp xs => xs.flatMap idsAt
  | .tup vs => vs.flatMap idsCv
  | .clo _ vs => vs.flatMap idsCv
def idsBlk : Blk E → List Nat
  | .box _ xs => xs.flatMap idsAt
  | _ => []
/-- The blocks that the kept slots lead to, each once, in the order they are met. -/
def reach (h : Nat → Option (Blk E)) : (fuel : Nat) → List Nat → List Nat → List Nat
  | 0, _, seen => seen.reverse
  | _, [], seen => seen.reverse
  | k + 1, id :: r, seen => bif seen.any (Nat.beq id) then reach h k r seen else
    match h id with
    | some b => reach h k (idsBlk b ++ r) (id :: seen)
    | none => reach h k r seen
def posOf : List Nat → Nat → Nat → Option Nat
  | [], _, _ => none
  | j :: r, i, n => bif Nat.beq j i then some n else posOf r i (n + 1)
def renAt (m : List Nat) : At E → At E
  | .own id => match posOf m id 0 with | some j => .own j | none => .dead
  | .sub id o l => match posOf m id 0 with | some j => .sub j o l | none => .dead
  | .ptr id o => match posOf m id 0 with | some j => .ptr j o | none => .dead
  | .eptr id i o => match posOf m id 0 with | some j => .eptr j i o | none => .dead
  | x => x
def renCv (m : List Nat) : Cv E → Cv E
  | .at x => .at (renAt m x)
  | .agg xs => .agg (xs.map (renAt m))
  | v => v
def renAV (m : List Nat) : AV E → AV E
  | .c v => .c (renCv m v)
  | .rp xs => .rp (xs.map (renAt m))
  | .tup vs => .tup (vs.map (renCv m))
  | .clo f vs => .clo f (vs.map (renCv m))
def renBlk (m : List Nat) : Blk E → Blk E
  | .box t xs => .box t (xs.map (renAt m))
  | b => b
def pick (ρ : List (Nat × AV E)) : List Nat → List (Nat × AV E)
  | [] => []
  | s :: r => match lk ρ s with
    | some v => (s, v) :: pick ρ r
    | none => pick ρ r
def heapOf (h : Nat → Option (Blk E)) (m : List Nat) : List Nat → Nat → List (Nat × Blk E)
  | [], _ => []
  | id :: r, j => match h id with
    | some b => (j, renBlk m b) :: heapOf h m r (j + 1)
    | none => heapOf h m r (j + 1)
def St.norm (S : St E) (live : List Nat) : St E :=
  let ρ := pick S.ρ live
  let m := reach S.h 1000 (ρ.flatMap fun p => idsAV p.2) []
  bif nodupB m && m.all (fun id => (S.h id).isSome) then { ρ := ρ.map fun p => (p.1, renAV m p.2), H := heapOf S.h m m 0, nx := m.length, n := S.n, pin := S.pin } else { ρ := [], H := [], nx := 0, n := S.n, pin := S.pin }

/-! ### Code -/
inductive Ex where
  | norm
  | exit (id : Nat)
  | ret
abbrev KT (E : Env) (R : Type) := Ex → St E → Option R
abbrev Orc (E : Env) (R : Type) := Code → KT E R → St E → Option R
def keyOf : Code → Option Nat
  | .region id _ _ => some id
  | .seq a b => match keyOf a with | some k => some k | none => keyOf b
  | .cond _ a b => match keyOf a with | some k => some k | none => keyOf b
  | .block _ a => keyOf a
  | .loop a => keyOf a
  | .scope a => keyOf a
  | _ => none
/-- The kept slots at loops and at cuts, by the number of the first region there. -/
abbrev Live := List (Nat × List Nat)

def kseq (f : St E → KT E R → Option R) (K : KT E R) : KT E R := fun ex S => match ex with
  | .norm => f S K
  | ex => K ex S
def kblock (id : Nat) (K : KT E R) : KT E R := fun ex S => match ex with
  | .exit j => bif Nat.beq j id then K .norm S else K (.exit j) S
  | ex => K ex S
def kloop (live : List Nat) (rec : St E → Option R) (K : KT E R) : KT E R := fun ex S => match ex with
  | .norm => rec (S.norm live)
  | ex => K ex S
section
variable (T : Tb) (Γ : Ctx E) (loops cuts : Live)
def runA (o : Orc E R) : Code → St E → KT E R → Option R
  | .skip, S, K => K .norm S
  | .region _ ops draw, S, K => runRegion T Γ ops draw S fun S => K .norm S
  | .seq a b, S, K => runA o a S (kseq (fun S K => match (keyOf b).bind (lk cuts) with
      | some live => o b K (S.norm live)
      | none => runA o b S K) K)
  | .cond c a b, S, K => match evO (lk S.ρ) c with
    | some (.c (.at (.bool x))) => bif x then runA o a (S.refine c true) K else runA o b (S.refine c false) K
    | _ => none
  | .block id a, S, K => runA o a S (kblock id K)
  | .loop a, S, K => match (keyOf a).bind (lk loops) with
    | some live => o (.loop a) K (S.norm live)
    | none => none
  | .exit id, S, K => K (.exit id) S
  | .ret, S, K => K .ret S
  | _, _, _ => none
def iter (step : (St E → Option R) → St E → Option R) : Nat → St E → Option R
  | 0, _ => none
  | n + 1, S => step (iter step n) S
/-- The oracle: loops of at most k rounds, nested at most so deep. -/
def orc (k : Nat) : Nat → Orc E R
  | 0, _, _, _ => none
  | d + 1, .loop b, K, S => match (keyOf b).bind (lk loops) with
    | some live => iter (fun rec S => runA T Γ loops cuts (orc k d) b S (kloop live rec K)) k S
    | none => none
  | d + 1, c, K, S => runA T Γ loops cuts (orc k d) c S K
end

/-! ### A function -/
def entry (E : Env) : (ps : List Par) → IT E ps → (slot id : Nat) → List (Nat × AV E) × Up E × Nat
  | [], _, _, id => ([], [], id)
  | .val t :: ps, h, s, id => let q := entry E ps h.2 (s + 1) id; ((s, .c (toCv E t h.1)) :: q.1, q.2)
  | .mut t :: ps, h, s, id => let a := newCv E t h.1 id; let q := entry E ps h.2 (s + 1) a.2.2; ((s, .c a.1) :: q.1, a.2.1 ++ q.2.1, q.2.2)
  | .box n :: ps, h, s, id => let a := newAts E (E.fl n) (E.opn n h.1) (id + 1); let q := entry E ps h.2 (s + 1) a.2.2; ((s, .a (.ptr id 0)) :: q.1, (id, .box n a.1) :: a.2.1 ++ q.2.1, q.2.2)
  | .clo f caps :: ps, h, s, id => let q := entry E ps h.2 (s + 1) id; ((s, .clo f (roCvs E caps h.1)) :: q.1, q.2)
def pins : List Par → Nat → List Nat
  | [], _ => []
  | .mut _ :: ps, s => s :: pins ps (s + 1)
  | .box _ :: ps, s => s :: pins ps (s + 1)
  | .val _ :: ps, s => pins ps (s + 1)
  | .clo _ _ :: ps, s => pins ps (s + 1)
/-- A function's captured variables come behind its parameters: a closure's own frame. -/
def entrySt (E : Env) (fn : Func) (ps : List Par) (x : IT E ps) : St E :=
  let q := entry E ps x 0 0; { ρ := q.1, H := q.2.1, nx := q.2.2, n := fn.ntmps, pin := pins ps 0 }
/-- The mutable parameters' data at the end, and the numbers of their blocks. -/
def ends (E : Env) (ρ : Nat → Option (AV E)) : (ps : List Par) → (slot : Nat) → RM E (OT E ps × List Nat)
  | [], _ => .pure ((), [])
  | .val _ :: ps, s => (ends E ρ ps (s + 1)).bind fun q => .pure (((), q.1), q.2)
  | .clo _ _ :: ps, s => (ends E ρ ps (s + 1)).bind fun q => .pure (((), q.1), q.2)
  | .mut t :: ps, s => match ρ s with
    | some (.c v) => (ofCv E t v).bind fun d => (ownAll v.cells).bind fun m => (ends E ρ ps (s + 1)).bind fun q => .pure ((d, q.1), m ++ q.2)
    | _ => .fail
  | .box n :: ps, s => match ρ s with
    | some (.c (.at (.ptr id 0))) => .rd id fun
      | .box t cells => bif Nat.beq t n then (ofAts E (E.fl n) cells).bind fun b => (ownAll cells).bind fun m =>
          (ends E ρ ps (s + 1)).bind fun q => .pure ((E.shut n b, q.1), id :: m ++ q.2) else .fail
      | _ => .fail
    | _ => .fail
def resOf (T : Tb) (ρ : Nat → Option (AV E)) : ResultVar → RM E (Cv E)
  | .tmp t => match ρ t with
    | some (.c v) => .pure v
    | _ => .fail
  | .cell a t => (aLoad T t (ρ a)).bind fun r => match r.1 with
    | .c v => .pure v
    | _ => .fail
def resAll (T : Tb) (ρ : Nat → Option (AV E)) : List ResultVar → RM E (List (Cv E))
  | [] => .pure []
  | r :: rs => (resOf T ρ r).bind fun v => (resAll T ρ rs).bind fun vs => .pure (v :: vs)
/-- Results all of whose slices are whole rows that may be written; their numbers. -/
def ownCvs : List (Cv E) → RM E (List Nat)
  | [] => .pure []
  | v :: vs => (ownAll v.cells).bind fun m => (ownCvs vs).bind fun ms => .pure (m ++ ms)
def natsEq : List Nat → List Nat → Bool
  | [], [] => true
  | a :: r, b :: s => Nat.beq a b && natsEq r s
  | _, _ => false
theorem natsEq_eq : ∀ {a b : List Nat}, natsEq a b = true → a = b
  | [], [], _ => rfl
  | a :: r, b :: s, h => by
    simp only [natsEq, Bool.and_eq_true] at h
    rw [Nat.eq_of_beq_eq_true h.1, natsEq_eq h.2]
  | [], _ :: _, h => by cases h
  | _ :: _, [], h => by cases h
def finR (T : Tb) (fn : Func) (s : Spec E) (S : St E) : RM E s.R :=
  (resAll T (lk S.ρ) fn.results.toList).bind fun vs => (ofCvs E s.rs vs).bind fun r => (ends E (lk S.ρ) s.ps 0).bind fun q =>
    bif s.own then (ownCvs vs).bind fun ms => bif nodupB (ms ++ q.2) then .pure (s.shut r q.1) else .fail
    else bif nodupB q.2 && !meets (vs.flatMap idsCv) q.2 && vs.all (fun v => v.cells.all okAt) then .pure (s.shut r q.1) else .fail
def kfin (T : Tb) (fn : Func) (s : Spec E) : KT E s.R := fun ex S => match ex with
  | .exit _ => none
  | _ => bif natsEq S.pin (pins s.ps 0) then (finR T fn s S).run S.h [] fun a _ => some a else none
def runF (T : Tb) (Γ : Ctx E) (loops cuts : Live) (fn : Func) (c : Code) (s : Spec E) (o : Orc E s.R) (x : IT E s.ps) : Option s.R :=
  runA T Γ loops cuts o c (entrySt E fn s.ps x) (kfin T fn s)
end Mir
