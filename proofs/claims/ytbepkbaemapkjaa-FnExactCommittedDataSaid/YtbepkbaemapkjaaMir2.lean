/- The mirror machine: states, calls by their specifications, code. -/
import Derived.Test.YtbepkbaemapkjaaMir1
namespace Mir
set_option linter.unusedVariables false
open Go
variable {E : Env}

/-! ### Specifications of functions -/
/-- What a pointer that is only read leads to: data, or a pointer to data. -/
inductive Cap where
  | rb (t : Ty)
  | rpp (t : Ty)
@[reducible] def Cap.I (E : Env) : Cap → Type
  | .rb t => Ty.D E.S t
  | .rpp t => Ty.D E.S t
@[reducible] def CT (E : Env) : List Cap → Type
  | [] => Unit
  | c :: cs => c.I E × CT E cs
/-- Parameters: read; written; a box that is written; a closure; a pointer that is only read; taken over; a box that is taken over. The truth: are the rows in the rows its own? -/
inductive Par where
  | val (t : Ty)
  | mut (dp : Bool) (t : Ty)
  | box (dp : Bool) (b n : Nat)
  | clo (f : FuncId) (caps : List Cap)
  | cap (c : Cap)
  | mov (dp : Bool) (t : Ty)
  | movb (dp : Bool) (b n : Nat)
@[reducible] def Par.I (E : Env) : Par → Type
  | .val t => Ty.D E.S t
  | .mut _ t => Ty.D E.S t
  | .box _ _ n => E.S n
  | .clo _ caps => CT E caps
  | .cap c => c.I E
  | .mov _ t => Ty.D E.S t
  | .movb _ _ n => E.S n
@[reducible] def Par.O (E : Env) : Par → Type
  | .val _ => Unit
  | .mut _ t => Ty.D E.S t
  | .box _ _ n => E.S n
  | .clo _ _ => Unit
  | .cap _ => Unit
  | .mov _ _ => Unit
  | .movb _ _ _ => Unit
@[reducible] def IT (E : Env) : List Par → Type
  | [] => Unit
  | p :: ps => p.I E × IT E ps
@[reducible] def OT (E : Env) : List Par → Type
  | [] => Unit
  | p :: ps => p.O E × OT E ps
structure Spec (E : Env) where
  ps : List Par
  rs : List Ty
  own : Bool
  dp : Bool
  R : Type
  fn : IT E ps → Option R
  res : R → HT E.S rs
  out : R → OT E ps
  shut : HT E.S rs → OT E ps → R
  res_shut : ∀ a b, res (shut a b) = a
  out_shut : ∀ a b, out (shut a b) = b
/-- A type whose rows lead to no rows. -/
def flatRows (E : Env) : Ty → Bool
  | .slice _ t => t.flat1 E
  | .rsl _ _ => false
  | .st n => (E.fl n).all fun
    | .slice _ t => t.flat1 E
    | .rsl _ _ => false
    | _ => true
  | .pbx _ n => (E.fl n).all fun
    | .slice _ t => t.flat1 E
    | .rsl _ _ => false
    | _ => true
  | _ => true
/-- A type all of whose rows are its own, and theirs. -/
def deepRows (E : Env) : Ty → Bool
  | .rsl _ _ => false
  | .st n => (E.fl n).all fun
    | .rsl _ _ => false
    | _ => true
  | .pbx _ n => (E.fl n).all fun
    | .rsl _ _ => false
    | _ => true
  | _ => true
def noF (E : Env) (dp : Bool) (t : Ty) : Bool := flatRows E t || (dp && deepRows E t)
def Par.flat (E : Env) : Par → Bool
  | .mut dp t => noF E dp t
  | .box dp _ n => noF E dp (.st n)
  | _ => true
def Spec.fz (s : Spec E) : Bool := !(s.own && s.rs.all (noF E s.dp) && s.ps.all (Par.flat E))

/-! ### Arguments in, results out -/
def ofCvs (E : Env) : (ts : List Ty) → List (Cv E) → RM E (HT E.S ts)
  | [], [] => .pure ()
  | t :: ts, v :: vs => (ofCv E t v).bind fun d => (ofCvs E ts vs).bind fun r => .pure (d, r)
  | _, _ => .fail
/-- A cell whose slice is a row that may be written: its number. sb: or the beginning of one. -/
def ownAt (E : Env) (sb dp : Bool) : Ty → At E → RM E (List Nat)
  | .rsl _ _, .ro _ _ _ => .pure []
  | .rsl _ _, .nils => .pure []
  | .slice _ _, .own id => .rd id fun
    | .row _ t _ false => bif !dp || t.flat1 E then .pure [id] else .fail
    | .drow _ t _ _ => bif dp && !t.flat1 E then .pure [id] else .fail
    | _ => .fail
  | .slice _ _, .sub id off _ => .rd id fun
    | .row _ t _ false => bif sb && Nat.beq off 0 && (!dp || t.flat1 E) then .pure [id] else .fail
    | _ => .fail
  | .slice _ _, .nils => .pure []
  | .int _, .int _ _ => .pure []
  | .bool, .bool _ => .pure []
  | .str, .str _ => .pure []
  | _, _ => .fail
def ownAll (E : Env) (sb dp : Bool) : List Ty → List (At E) → RM E (List Nat)
  | [], [] => .pure []
  | t :: ts, x :: xs => (ownAt E sb dp t x).bind fun m => (ownAll E sb dp ts xs).bind fun l => .pure (m ++ l)
  | _, _ => .fail
def ownCv (E : Env) (sb dp : Bool) : Ty → Cv E → RM E (List Nat)
  | .st n, .agg xs => ownAll E sb dp (E.fl n) xs
  | .arr _ _, .arr _ _ _ => .pure []
  | .pbx _ n, .at (.ptr id 0) => bif sb then (.rd id fun
    | .box _ cells => (ownAll E true dp (E.fl n) cells).bind fun m => .pure (id :: m)
    | _ => .fail) else .fail
  | t, .at x => ownAt E sb dp t x
  | _, _ => .fail
/-- A datum out of a block's first cells. -/
def ofCells (E : Env) : (t : Ty) → List (At E) → RM E (Ty.D E.S t)
  | .st n, xs => (ofAts E (E.fl n) xs).bind fun h => .pure (E.shut n h)
  | t, [x] => ofAt E t x
  | _, _ => .fail
/-- What is read of the arguments: the data; rows to be frozen; blocks that may be written; boxes that are read. -/
structure Inp (E : Env) (A : Type) where
  x : A
  u : Up E
  m : List Nat
  b : List Nat
/-- The cells of a box that is read, from the front. -/
def boxCells (E : Env) (t : Ty) : Blk E → RM E (List (At E))
  | .box _ cells => .pure (cells.take (tsz E t))
  | .rbx cells => .pure (cells.take (tsz E t))
  | _ => .fail
/-- Data that are read through a pointer. -/
def readBox (E : Env) (t : Ty) (id : Nat) : RM E (Ty.D E.S t × Up E) := .rd id fun b => (boxCells E t b).bind fun cs =>
  (ofCells E t cs).bind fun d => (frz cs).bind fun u => .pure (d, u)
def onePtr : Blk E → RM E Nat
  | .box _ [.ptr id 0] => .pure id
  | .rbx [.ptr id 0] => .pure id
  | _ => .fail
def inpCap (E : Env) : (c : Cap) → AV E → RM E (Inp E (c.I E))
  | .rb t, .c (.at (.ptr id 0)) => (readBox E t id).bind fun q => .pure ⟨q.1, q.2, [], [id]⟩
  | .rpp t, .c (.at (.ptr id 0)) => .rd id fun b => (onePtr b).bind fun j => (readBox E t j).bind fun q => .pure ⟨q.1, q.2, [], [id, j]⟩
  | _, _ => .fail
def inpCaps (E : Env) : (cs : List Cap) → List (Cv E) → RM E (Inp E (CT E cs))
  | [], [] => .pure ⟨(), [], [], []⟩
  | c :: cs, v :: vs => (inpCap E c (.c v)).bind fun p => (inpCaps E cs vs).bind fun q => .pure ⟨(p.x, q.x), p.u ++ q.u, [], p.b ++ q.b⟩
  | _, _ => .fail
def inpP (E : Env) : (p : Par) → AV E → RM E (Inp E (p.I E))
  | .val t, .c v => bif okCv v then (ofCv E t v).bind fun d => (frzCv v).bind fun u => .pure ⟨d, u, [], []⟩ else .fail
  | .mut dp t, .c v => (ofCv E t v).bind fun d => (ownCv E false dp t v).bind fun m => .pure ⟨d, [], m, []⟩
  | .mov dp t, .c v => (ofCv E t v).bind fun d => (ownCv E true dp t v).bind fun m => .pure ⟨d, [], m, []⟩
  | .box dp b n, .c (.at (.ptr id 0)) => .rd id fun
    | .box t cells => bif Nat.beq t b then (ofAts E (E.fl n) cells).bind fun h => (ownAll E true dp (E.fl n) cells).bind fun m => .pure ⟨E.shut n h, [], id :: m, []⟩ else .fail
    | _ => .fail
  | .movb dp b n, .c (.at (.ptr id 0)) => .rd id fun
    | .box t cells => bif Nat.beq t b then (ofAts E (E.fl n) cells).bind fun h => (ownAll E true dp (E.fl n) cells).bind fun m => .pure ⟨E.shut n h, [], id :: m, []⟩ else .fail
    | _ => .fail
  | .clo f caps, .clo g cs => bif Nat.beq f g then inpCaps E caps cs else .fail
  | .cap c, v => inpCap E c v
  | _, _ => .fail
def inp (E : Env) : (ps : List Par) → List (AV E) → RM E (Inp E (IT E ps))
  | [], [] => .pure ⟨(), [], [], []⟩
  | p :: ps, v :: vs => (inpP E p v).bind fun a => (inp E ps vs).bind fun q => .pure ⟨(a.x, q.x), a.u ++ q.u, a.m ++ q.m, a.b ++ q.b⟩
  | _, _ => .fail
/-- A new row: of the state's own, its elements' rows too. -/
def mkRow (E : Env) (dp : Bool) (e : Nat) (t : Ty) (xs : List (Ty.D E.S t)) (fr : Nat) : Up E × Nat :=
  bif dp && !t.flat1 E then ([(fr, .drow e t xs (fr + 1)), (fr + 1, .hdr)], fr + 2) else ([(fr, .row e t xs false)], fr + 1)
/-- Cells of data; slices as new rows from number fr on. -/
def newAts (E : Env) (dp : Bool) : (ts : List Ty) → HT E.S ts → (fr : Nat) → List (At E) × Up E × Nat
  | [], _, fr => ([], [], fr)
  | .slice e t :: ts, h, fr => let r := mkRow E dp e t h.1 fr; let q := newAts E dp ts h.2 r.2; (.own fr :: q.1, r.1 ++ q.2.1, q.2.2)
  | .rsl e t :: ts, h, fr => let q := newAts E dp ts h.2 fr; (.ro e t h.1 :: q.1, q.2)
  | .int k :: ts, h, fr => let q := newAts E dp ts h.2 fr; (.int k h.1 :: q.1, q.2)
  | .bool :: ts, h, fr => let q := newAts E dp ts h.2 fr; (.bool h.1 :: q.1, q.2)
  | .str :: ts, h, fr => let q := newAts E dp ts h.2 fr; (.str h.1 :: q.1, q.2)
  | .st _ :: ts, h, fr => let q := newAts E dp ts h.2 fr; (.dead :: q.1, q.2)
  | .arr _ _ :: ts, h, fr => let q := newAts E dp ts h.2 fr; (.dead :: q.1, q.2)
  | .pbx _ _ :: ts, h, fr => let q := newAts E dp ts h.2 fr; (.dead :: q.1, q.2)
def newCv (E : Env) (dp : Bool) : (t : Ty) → Ty.D E.S t → (fr : Nat) → Cv E × Up E × Nat
  | .st n, x, fr => let q := newAts E dp (E.fl n) (E.opn n x) fr; (.agg q.1, q.2)
  | .slice e t, xs, fr => (.at (.own fr), mkRow E dp e t xs fr)
  | .rsl e t, xs, fr => (.at (.ro e t xs), [], fr)
  | .int k, x, fr => (.at (.int k x), [], fr)
  | .bool, x, fr => (.at (.bool x), [], fr)
  | .str, x, fr => (.at (.str x), [], fr)
  | .arr k n, xs, fr => (.arr k n xs, [], fr)
  | .pbx b n, x, fr => let q := newAts E dp (E.fl n) (E.opn n x) (fr + 1); (.at (.ptr fr 0), (fr, .box b q.1) :: q.2.1, q.2.2)
def newCvs (E : Env) (dp : Bool) : (ts : List Ty) → HT E.S ts → (fr : Nat) → List (Cv E) × Up E × Nat
  | [], _, fr => ([], [], fr)
  | t :: ts, h, fr => let a := newCv E dp t h.1 fr; let q := newCvs E dp ts h.2 a.2.2; (a.1 :: q.1, a.2.1 ++ q.2.1, q.2.2)
def roCvs (E : Env) : (ts : List Ty) → HT E.S ts → List (Cv E)
  | [], _ => []
  | t :: ts, h => toCv E t h.1 :: roCvs E ts h.2
/-- A row that a mutable argument is, behind the call; deep rows get a new number for what their elements' slices are. -/
def backRow (E : Env) (dp : Bool) (e : Nat) (t : Ty) (xs : List (Ty.D E.S t)) (id fr : Nat) : Up E × Nat :=
  bif dp && !t.flat1 E then ([(id, .drow e t xs fr), (fr, .hdr)], fr + 1) else ([(id, .row e t xs false)], fr)
/-- What a mutable argument holds behind the call. -/
def backAts (E : Env) (dp : Bool) : (ts : List Ty) → HT E.S ts → List (At E) → (fr : Nat) → Up E × Nat
  | .slice e t :: ts, h, .own id :: xs, fr => let r := backRow E dp e t h.1 id fr; let q := backAts E dp ts h.2 xs r.2; (r.1 ++ q.1, q.2)
  | _ :: ts, h, _ :: xs, fr => backAts E dp ts h.2 xs fr
  | _, _, _, fr => ([], fr)
def backCv (E : Env) (dp : Bool) : (t : Ty) → Ty.D E.S t → Cv E → (fr : Nat) → Up E × Nat
  | .st n, x, .agg xs, fr => backAts E dp (E.fl n) (E.opn n x) xs fr
  | .slice e t, xs, .at (.own id), fr => backRow E dp e t xs id fr
  | _, _, _, fr => ([], fr)
def outp (E : Env) : (ps : List Par) → OT E ps → List (AV E) → (fr : Nat) → Up E × Nat
  | .mut dp t :: ps, o, .c v :: vs, fr => let a := backCv E dp t o.1 v fr; let q := outp E ps o.2 vs a.2; (a.1 ++ q.1, q.2)
  | .box dp b n :: ps, o, .c (.at (.ptr id 0)) :: vs, fr => let a := newAts E dp (E.fl n) (E.opn n o.1) fr; let q := outp E ps o.2 vs a.2.2; ((id, .box b a.1) :: a.2.1 ++ q.1, q.2)
  | .val _ :: ps, o, _ :: vs, fr => outp E ps o.2 vs fr
  | .clo _ _ :: ps, o, _ :: vs, fr => outp E ps o.2 vs fr
  | .cap _ :: ps, o, _ :: vs, fr => outp E ps o.2 vs fr
  | .mov _ _ :: ps, o, _ :: vs, fr => outp E ps o.2 vs fr
  | .movb _ _ _ :: ps, o, _ :: vs, fr => outp E ps o.2 vs fr
  | _, _, _, fr => ([], fr)
def STR : Nat := 64
def meets (a b : List Nat) : Bool := a.any fun x => b.any (Nat.beq x)
def nodupB : List Nat → Bool
  | [] => true
  | x :: r => !(r.any (Nat.beq x)) && nodupB r
def tupOf : List (Cv E) → AV E
  | [v] => .c v
  | vs => .tup vs
def acall (s : Spec E) (fr lim : Nat) (args : List (AV E)) : RM E (Res E) :=
  (inp E s.ps args).bind fun q => bif nodupB q.m && !meets (q.u.map (·.1)) q.m && !meets q.b q.m && (!s.fz || q.b.isEmpty) then .call (s.fn q.x) fun r =>
    let R := bif s.own then newCvs E s.dp s.rs (s.res r) fr else (roCvs E s.rs (s.res r), [], fr)
    let O := outp E s.ps (s.out r) args R.2.2
    bif Nat.ble O.2 lim then .pure (tupOf R.1, R.2.1 ++ (O.1 ++ ((q.m.map fun i => (i, .gone)) ++ (bif s.fz then q.u else [])))) else .fail
  else .fail

/-! ### Deep rows -/
/-- A reader over a heap with updates. -/
def RM.over (U : Up E) {α : Type} : RM E α → RM E α
  | .pure a => .pure a
  | .fail => .fail
  | .rd id k => match lk U id with
    | some .gone => .fail
    | some b => RM.over U (k b)
    | none => .rd id fun b => RM.over U (k b)
  | .chk b k => .chk b (RM.over U k)
  | .call m k => .call m fun y => RM.over U (k y)
/-- A struct with another slice at a cell. -/
def putSl (E : Env) (n c : Nat) (y : At E) (x : E.S n) : RM E (E.S n) := (ofAts E (E.fl n) ((toAts E (E.fl n) (E.opn n x)).set c y)).bind fun h => .pure (E.shut n h)
/-- The cells of an element of a deep row. -/
def inAts (id hid i : Nat) : List (At E) → Nat → List (At E)
  | [], _ => []
  | .ro _ _ _ :: xs, c => .inn id hid i c :: inAts id hid i xs (c + 1)
  | x :: xs, c => x :: inAts id hid i xs (c + 1)
/-- The first argument that is written and is a slice of an element of a deep row. -/
def innIx : List Par → List (AV E) → Nat → Option (Nat × Nat × Nat × Nat × Nat)
  | .mut _ _ :: ps, v :: vs, k => match v with
    | .c (.at (.inn id hid i c)) => some (k, id, hid, i, c)
    | _ => innIx ps vs (k + 1)
  | _ :: ps, _ :: vs, k => innIx ps vs (k + 1)
  | _, _, _ => none
def detach (E : Env) (fr id hid i c : Nat) : RM E (Up E) := .rd id fun
  | .drow e (.st n) xs hid' => bif Nat.beq hid hid' then .chk (decide (i < xs.length)) (match (toAts E (E.fl n) (E.opn n (el E (.st n) xs i)))[c]? with
      | some (.ro e' t' ys) => .pure ((id, .hole e n xs (fr + 2) i c) :: (fr + 2, .hdr) :: ((mkRow E true e' t' ys fr).1 ++ [(id, .gone)]))
      | _ => .fail) else .fail
  | _ => .fail
def attachK (E : Env) (id fr lim e n : Nat) (xs : List (E.S n)) (i c e' : Nat) (t' : Ty) (ys : List (Ty.D E.S t')) : RM E (Up E) :=
  (putSl E n c (.ro e' t' ys) (el E (.st n) xs i)).bind fun x => .pure [(id, .drow e (.st n) (xs.set i x) lim), (lim, .hdr), (id, .gone), (fr, .gone)]
def attach (E : Env) (R U : Up E) (id fr lim : Nat) : RM E (Up E) := bif (lk (R ++ U) lim).isNone && (lk R id).isNone then (match lk U id with
  | some (.hole e n xs _ i c) => match lk (R ++ U) fr with
    | some (.row e' t' ys false) => bif t'.flat1 E then attachK E id fr lim e n xs i c e' t' ys else .fail
    | some (.drow e' t' ys _) => attachK E id fr lim e n xs i c e' t' ys
    | _ => .fail
  | _ => .fail) else .fail
def acallD (s : Spec E) (fr : Nat) (args : List (AV E)) : RM E (Res E) := match innIx s.ps args 0 with
  | none => acall s fr (fr + STR) args
  | some (k, id, hid, i, c) => (detach E fr id hid i c).bind fun U => (RM.over U (acall s (fr + 3) (fr + 63) (args.set k (.a (.own fr))))).bind fun r =>
      (attach E r.2 U id fr (fr + 63)).bind fun u => .pure (r.1, u ++ (r.2 ++ U))
def simpAt : At E → Bool
  | .int _ _ => true
  | .bool _ => true
  | .str _ => true
  | _ => false
def nilAt : At E → Bool
  | .nils => true
  | x => simpAt x
/-- No slice that may be only read among the cells. -/
def noRsl (E : Env) (n : Nat) : Bool := (E.fl n).all fun
  | .rsl _ _ => false
  | _ => true
def gones (m : List Nat) : Up E := m.map fun i => (i, .gone)
def dIndexAddr (T : Tb) (t : TypeId) (id : Nat) (ty : Ty) (xs : List (Ty.D E.S ty)) : Option (AV E) → RM E (Res E)
  | some (.c (.at (.int _ n))) => match T.und t with
    | some (.slice e) => bif sizeIs T e (tsz E ty) then .chk (decide (0 ≤ n)) (.chk (decide (n < (xs.length : Int))) (one (.a (.eptr id n.toNat 0)))) else .fail
    | _ => .fail
  | _ => .fail
def dStore (T : Tb) (t : TypeId) (fr id e s : Nat) (xs : List (E.S s)) (hid i off : Nat) : Option (Cv E) → RM E (Res E)
  | some v => match T.size t with
    | some n => bif okCv v && Nat.beq v.cells.length n then
        (bif v.cells.all simpAt && Nat.ble (off + n) (E.fl s).length then
          (ofAts E (E.fl s) (putAt (toAts E (E.fl s) (E.opn s (el E (.st s) xs i))) off v.cells)).bind fun h => .pure (.dead, [(id, .drow e (.st s) (xs.set i (E.shut s h)) fr), (fr, .hdr), (id, .gone)])
        else bif Nat.beq off 0 && Nat.beq n (E.fl s).length && noRsl E s then
          (ofAts E (E.fl s) v.cells).bind fun h => (ownAll E true true (E.fl s) v.cells).bind fun m => bif nodupB (id :: m) then .pure (.dead, (id, .drow e (.st s) (xs.set i (E.shut s h)) fr) :: (fr, .hdr) :: gones (id :: m)) else .fail
        else .fail)
      else .fail
    | none => .fail
  | none => .fail
def dMake (T : Tb) (fr e s : Nat) (same : Bool) (l c : Option (AV E)) : RM E (Res E) := match T.bytes e, T.size e, T.zeroCv E e with
  | some b, some sz, some (.agg zs) => bif Nat.beq sz (tsz E (.st s)) && Nat.blt 0 sz && Nat.blt 0 b && zOK T e sz && zs.all nilAt && noRsl E s then (ofAts E (E.fl s) zs).bind fun z => match l, c with
      | some (.c (.at (.int .i64 l))), some (.c (.at (.int .i64 c))) => bif same
        then .chk (decide (0 ≤ l)) (.chk (room l.toNat b) (.pure (.a (.own fr), [(fr, .drow e (.st s) (List.replicate l.toNat (E.shut s z)) (fr + 1)), (fr + 1, .hdr)])))
        else .chk (decide (l = 0)) (.chk (decide (0 ≤ c)) (.chk (room c.toNat b) (.pure (.a (.own fr), [(fr, .drow e (.st s) [] (fr + 1)), (fr + 1, .hdr)]))))
      | _, _ => .fail
    else .fail
  | _, _, _ => .fail
def partsD (E : Env) (n : Nat) : List (Nat × Option (AV E)) → Nat → RM E (List (E.S n) × List Nat)
  | [], _ => .pure ([], [])
  | (j, v) :: r, k => bif Nat.beq j k then match asCv v with
      | some (.agg xs) => bif xs.all okAt then (ofAts E (E.fl n) xs).bind fun h => (ownAll E true true (E.fl n) xs).bind fun m => (partsD E n r (k + 1)).bind fun q => .pure (E.shut n h :: q.1, m ++ q.2) else .fail
      | _ => .fail
    else .fail
def dBuild (T : Tb) (fr e s len : Nat) (parts : List (Nat × Option (AV E))) : RM E (Res E) := match T.size e with
  | some sz => bif Nat.beq sz (tsz E (.st s)) && Nat.blt 0 sz && Nat.ble (len * sz) 16777216 && zOK T e sz && noRsl E s && Nat.beq parts.length len then
      (partsD E s parts 0).bind fun q => bif nodupB q.2 then .pure (.a (.own fr), (fr, .drow e (.st s) q.1 (fr + 1)) :: (fr + 1, .hdr) :: gones q.2) else .fail
    else .fail
  | none => .fail
def dAppend (T : Tb) (fr e s : Nat) (u : TypeId) (x y : Option (AV E)) : RM E (Res E) := match T.bytes e, T.size e with
  | some b, some sz => bif Nat.beq sz (tsz E (.st s)) && Nat.blt 0 sz && Nat.blt 0 b && notInt T u && zOK T e sz then match y with
      | some (.c (.at (.own jd))) => .rd jd fun
        | .drow e2 t2 ys _ => (castR E e (.st s) e2 t2 ys).bind fun ys => match x with
          | some (.c (.at (.own id))) => .rd id fun
            | .drow e1 t1 xs _ => (castR E e (.st s) e1 t1 xs).bind fun xs => bif nodupB [id, jd] then .chk (room (xs.length + ys.length) b) (.pure (.a (.own fr), (fr, .drow e (.st s) (xs ++ ys) (fr + 1)) :: (fr + 1, .hdr) :: gones [id, jd])) else .fail
            | _ => .fail
          | some (.c (.at .nils)) => .chk (room ys.length b) (.pure (.a (.own fr), (fr, .drow e (.st s) ys (fr + 1)) :: (fr + 1, .hdr) :: gones [jd]))
          | _ => .fail
        | _ => .fail
      | _ => .fail
    else .fail
  | _, _ => .fail
/-- One operation that calls nothing; deep rows too. -/
def dop (T : Tb) (fr : Nat) (ρ : Nat → Option (AV E)) (op : Op) : RM E (Res E) := match op with
  | .indexAddr t x i => match evO ρ x with
    | some (.c (.at (.own id))) => .rd id fun b => match b with
      | .drow _ ty xs _ => dIndexAddr T t id ty xs (evO ρ i)
      | _ => aop T fr ρ (.indexAddr t x i)
    | _ => aop T fr ρ (.indexAddr t x i)
  | .load t x => match evO ρ x with
    | some (.c (.at (.eptr id i off))) => .rd id fun b => match b with
      | .drow _ ty xs hid => partOf T t ((inAts id hid i (toCv E ty (el E ty xs i)).cells 0).drop off)
      | _ => aop T fr ρ (.load t x)
    | _ => aop T fr ρ (.load t x)
  | .store t x v => match evO ρ x with
    | some (.c (.at (.eptr id i off))) => .rd id fun b => match b with
      | .drow e (.st s) xs hid => dStore T t fr id e s xs hid i off (asCv (evO ρ v))
      | _ => aop T fr ρ (.store t x v)
    | _ => aop T fr ρ (.store t x v)
  | .makeSlice t l c => match T.elem t with
    | some (e, .st s) => bif T.deep && !(Ty.st s).flat1 E then dMake T fr e s (opdEq l c) (evO ρ l) (evO ρ c) else aop T fr ρ (.makeSlice t l c)
    | _ => aop T fr ρ (.makeSlice t l c)
  | .buildSlice t len parts => match T.elem t with
    | some (e, .st s) => bif T.deep && !(Ty.st s).flat1 E then dBuild T fr e s len (parts.toList.map fun p => (p.1, evO ρ p.2)) else aop T fr ρ (.buildSlice t len parts)
    | _ => aop T fr ρ (.buildSlice t len parts)
  | .call c => match c.callee with
    | .builtin .len => match c.args.toList with
      | [x] => match evO ρ x with
        | some (.c (.at (.own id))) => .rd id fun b => match b with
          | .drow _ _ xs _ => match c.argTypes.toList with
            | [t] => match T.und t with
              | some (.slice _) => one (.int .i64 (xs.length : Int))
              | _ => .fail
            | _ => .fail
          | _ => aop T fr ρ (.call c)
        | _ => aop T fr ρ (.call c)
      | _ => aop T fr ρ (.call c)
    | .builtin .append => match c.argTypes.toList with
      | [t, u] => match T.elem t with
        | some (e, .st s) => bif T.deep && !(Ty.st s).flat1 E then (match c.args.toList with
          | [x, y] => dAppend T fr e s u (evO ρ x) (evO ρ y)
          | _ => .fail) else aop T fr ρ (.call c)
        | _ => aop T fr ρ (.call c)
      | _ => aop T fr ρ (.call c)
    | _ => aop T fr ρ (.call c)
  | op => aop T fr ρ op

/-! ### States -/
structure St (E : Env) where
  ρ : List (Nat × AV E)
  H : List (Nat × Blk E)
  nx : Nat
  n : Nat
  pin : List Nat
def St.h (S : St E) (id : Nat) : Option (Blk E) := match lk S.H id with
  | some .gone => none
  | x => x
def putK {R : Type} (S : St E) (d : Option Nat) (v : AV E) (K : St E → Option R) : Option R := match d with
  | none => K S
  | some d => bif Nat.blt d S.n && !S.pin.any (Nat.beq d) then K { S with ρ := (d, v) :: S.ρ } else none
def St.refine (S : St E) : Operand → Bool → St E
  | .tmp t, b => { S with ρ := (t, .bool b) :: S.ρ }
  | _, _ => S

abbrev Ctx (E : Env) := FuncId → List FuncId → Option (Spec E)
def closOf : List (AV E) → List FuncId
  | [] => []
  | .clo f _ :: r => f :: closOf r
  | _ :: r => closOf r
def avs : List (Option (AV E)) → Option (List (AV E))
  | [] => some []
  | some v :: r => (avs r).map (v :: ·)
  | none :: _ => none
def aopC (T : Tb) (Γ : Ctx E) (fr : Nat) (ρ : Nat → Option (AV E)) : Op → RM E (Res E)
  | .call c => match c.callee with
    | .value f => match evO ρ f, avs (c.args.toList.map (evO ρ)) with
      | some (.clo g caps), some vs => match Γ g (closOf vs) with
        | some s => acallD s fr (vs ++ caps.map .c)
        | none => .fail
      | _, _ => .fail
    | _ => dop T fr ρ (.call c)
  | op => dop T fr ρ op

structure Step where
  i : Nat
  ws : List Nat
  rs : List Nat

variable {R : Type}
section
variable (T : Tb) (Γ : Ctx E)
def runOp (i : Nat) (o : Oper) (nx : Nat) (S : St E) (l : List Step) (K : St E → List Step → Option R) : Option R :=
  (aopC T Γ (nx + STR * i) (lk S.ρ) o.op).run S.h [] fun r rds =>
    bif (r.2.map (·.1)).all fun k => rds.any (Nat.beq k) || (Nat.ble (nx + STR * i) k && Nat.blt k (nx + STR * i + STR)) then
      putK { S with H := r.2 ++ S.H } o.dst r.1 fun S' => K S' (⟨i, r.2.map (·.1), rds⟩ :: l)
    else none
def skipOp (o : Oper) (S : St E) (l : List Step) (K : St E → List Step → Option R) : Option R :=
  putK S o.dst (.a .undef) fun S' => K S' l
def runOps (all : Array Oper) (nx : Nat) : List Oper → Nat → St E → List Step → (St E → List Step → Option R) → Option R
  | [], _, S, l, K => K S l
  | o :: rest, i, S, l, K => match o.guard with
    | none => runOp T Γ i o nx S l fun S l => runOps all nx rest (i + 1) S l K
    | some (j, want) => match (all[j]?).bind (·.dst) with
      | none => none
      | some d => match lk S.ρ d with
        | some (.c (.at (.bool b))) => bif Nat.blt d S.n then
            (bif b then
              (bif want then runOp T Γ i o nx { S with ρ := (d, .bool true) :: S.ρ } l fun S l => runOps all nx rest (i + 1) S l K
               else skipOp o { S with ρ := (d, .bool true) :: S.ρ } l fun S l => runOps all nx rest (i + 1) S l K)
            else
              (bif want then skipOp o { S with ρ := (d, .bool false) :: S.ρ } l fun S l => runOps all nx rest (i + 1) S l K
               else runOp T Γ i o nx { S with ρ := (d, .bool false) :: S.ρ } l fun S l => runOps all nx rest (i + 1) S l K))
            else none
        | some (.c (.at .undef)) => skipOp o S l fun S l => runOps all nx rest (i + 1) S l K
        | _ => none

/-- Which operations must have been done ahead of each. -/
def befBits (acc : List Nat) (o : Oper) : Nat := o.after.toList.foldl (fun s e => bif Region.binds .any e then (s ||| 2 ^ e.on) ||| acc.getD e.on 0 else s) 0
def befGo : List Oper → List Nat → List Nat
  | [], acc => acc
  | o :: r, acc => befGo r (acc ++ [befBits acc o])
def befores (ops : List Oper) : List Nat := befGo ops []
def edgesOK : List Oper → Nat → Bool
  | [], _ => true
  | o :: r, i => (o.after.toList.all fun e => !Region.binds .any e || Nat.blt e.on i) && edgesOK r (i + 1)
def namesOf (all : Array Oper) (o : Oper) : List Nat := o.dst.toList ++ o.looksAt all
def sepSteps (b : List Nat) (x y : Step) : Bool :=   -- x later in the text than y
  Nat.testBit (b.getD x.i 0) y.i || (!meets x.ws y.ws && !meets x.ws y.rs && !meets x.rs y.ws)
def indepSteps (b : List Nat) : List Step → Bool
  | [] => true
  | x :: r => r.all (sepSteps b x) && indepSteps b r
def indepNames (all : Array Oper) (b : List Nat) : Bool :=
  (List.range all.size).all fun i => (List.range i).all fun j => match all[i]?, all[j]? with
    | some x, some y => Nat.testBit (b.getD i 0) j || x.apart all y
    | _, _ => false
def indep (all : Array Oper) (l : List Step) : Bool := let b := befores all.toList; indepSteps b l && indepNames all b && edgesOK all.toList 0

def runRegion (ops : Array Oper) (draw : Bool) (S : St E) (K : St E → Option R) : Option R :=
  runOps T Γ ops S.nx ops.toList 0 S [] fun S' l =>
    bif !draw || indep ops l then K { S' with nx := S.nx + STR * ops.size } else none
end

/-! ### The state at a loop's head -/
def idsAt : At E → List Nat
  | .own id => [id]
  | .sub id _ _ => [id]
  | .ptr id _ => [id]
  | .eptr id _ _ => [id]
  | .inn id _ _ _ => [id]
  | .mp id => [id]
  | _ => []
def idsCv : Cv E → List Nat
  | .at x => idsAt x
  | .agg xs => xs.flatMap idsAt
  | .arr _ _ _ => []
def idsAV : AV E → List Nat
  | .c v => idsCv v
  | .rp xs => xs.flatMap idsAt
  | .tup vs => vs.flatMap idsCv
  | .clo _ vs => vs.flatMap idsCv
def idsBlk : Blk E → List Nat
  | .box _ xs => xs.flatMap idsAt
  | .rbx xs => xs.flatMap idsAt
  | .drow _ _ _ hid => [hid]
  | _ => []
/-- The blocks that the kept slots lead to, each once, in the order they are met. -/
def reach (h : Nat → Option (Blk E)) : (fuel : Nat) → List Nat → List Nat → List Nat
  | 0, _, seen => seen.reverse
  | _, [], seen => seen.reverse
  | k + 1, id :: r, seen => bif seen.any (Nat.beq id) then reach h k r seen else
    match h id with
    | some b => reach h k (idsBlk b ++ r) (id :: seen)
    | none => reach h k r seen
def posOf : List Nat → Nat → Nat → Option Nat
  | [], _, _ => none
  | j :: r, i, n => bif Nat.beq j i then some n else posOf r i (n + 1)
def renAt (m : List Nat) : At E → At E
  | .own id => match posOf m id 0 with | some j => .own j | none => .dead
  | .sub id o l => match posOf m id 0 with | some j => .sub j o l | none => .dead
  | .ptr id o => match posOf m id 0 with | some j => .ptr j o | none => .dead
  | .eptr id i o => match posOf m id 0 with | some j => .eptr j i o | none => .dead
  | .inn _ _ _ _ => .dead
  | .mp id => match posOf m id 0 with | some j => .mp j | none => .dead
  | x => x
def renCv (m : List Nat) : Cv E → Cv E
  | .at x => .at (renAt m x)
  | .agg xs => .agg (xs.map (renAt m))
  | v => v
def renAV (m : List Nat) : AV E → AV E
  | .c v => .c (renCv m v)
  | .rp xs => .rp (xs.map (renAt m))
  | .tup vs => .tup (vs.map (renCv m))
  | .clo f vs => .clo f (vs.map (renCv m))
def renBlk (m : List Nat) : Blk E → Blk E
  | .box t xs => .box t (xs.map (renAt m))
  | .rbx xs => .rbx (xs.map (renAt m))
  | .drow e t xs hid => match posOf m hid 0 with | some j => .drow e t xs j | none => .gone
  | .hole _ _ _ _ _ _ => .gone
  | b => b
def pick (ρ : List (Nat × AV E)) : List Nat → List (Nat × AV E)
  | [] => []
  | s :: r => match lk ρ s with
    | some v => (s, v) :: pick ρ r
    | none => pick ρ r
def heapOf (h : Nat → Option (Blk E)) (m : List Nat) : List Nat → Nat → List (Nat × Blk E)
  | [], _ => []
  | id :: r, j => match h id with
    | some b => (j, renBlk m b) :: heapOf h m r (j + 1)
    | none => heapOf h m r (j + 1)
def St.norm (S : St E) (live : List Nat) : St E :=
  let ρ := pick S.ρ live
  let m := reach S.h 1000 (ρ.flatMap fun p => idsAV p.2) []
  bif nodupB m && m.all (fun id => (S.h id).isSome) then { ρ := ρ.map fun p => (p.1, renAV m p.2), H := heapOf S.h m m 0, nx := m.length, n := S.n, pin := S.pin } else { ρ := [], H := [], nx := 0, n := S.n, pin := S.pin }

/-! ### Code -/
/-- Both ways, where nobody knows which is gone; they must come to the same. -/
noncomputable def amb {R : Type} (p q : Bool) (x y : Option R) : Option R :=
  bif p then (bif q then (@ite (Option R) (x = y) (Classical.propDecidable _) x none) else x) else (bif q then y else none)
inductive Ex where
  | norm
  | exit (id : Nat)
  | ret
abbrev KT (E : Env) (R : Type) := Ex → St E → Option R
abbrev Orc (E : Env) (R : Type) := Code → KT E R → St E → Option R
def keyOf : Code → Option Nat
  | .region id _ _ => some id
  | .seq a b => match keyOf a with | some k => some k | none => keyOf b
  | .cond _ a b => match keyOf a with | some k => some k | none => keyOf b
  | .block _ a => keyOf a
  | .loop a => keyOf a
  | .scope a => keyOf a
  | _ => none
/-- The kept slots at loops and at cuts, by the number of the first region there. -/
abbrev Live := List (Nat × List Nat)

def kseq (f : St E → KT E R → Option R) (K : KT E R) : KT E R := fun ex S => match ex with
  | .norm => f S K
  | ex => K ex S
def kblock (id : Nat) (K : KT E R) : KT E R := fun ex S => match ex with
  | .exit j => bif Nat.beq j id then K .norm S else K (.exit j) S
  | ex => K ex S
def kloop (live : List Nat) (rec : St E → Option R) (K : KT E R) : KT E R := fun ex S => match ex with
  | .norm => rec (S.norm live)
  | ex => K ex S
section
variable (T : Tb) (Γ : Ctx E) (loops cuts : Live)
noncomputable def runA (o : Orc E R) : Code → St E → KT E R → Option R
  | .skip, S, K => K .norm S
  | .region _ ops draw, S, K => runRegion T Γ ops draw S fun S => K .norm S
  | .seq a b, S, K => runA o a S (kseq (fun S K => match (keyOf b).bind (lk cuts) with
      | some live => o b K (S.norm live)
      | none => runA o b S K) K)
  | .cond c a b, S, K => match evO (lk S.ρ) c with
    | some (.c (.at (.bool x))) => bif x then runA o a (S.refine c true) K else runA o b (S.refine c false) K
    | some (.c (.at (.unk p q))) => amb p q (runA o a (S.refine c true) K) (runA o b (S.refine c false) K)
    | _ => none
  | .block id a, S, K => runA o a S (kblock id K)
  | .loop a, S, K => match (keyOf a).bind (lk loops) with
    | some live => o (.loop a) K (S.norm live)
    | none => none
  | .exit id, S, K => K (.exit id) S
  | .ret, S, K => K .ret S
  | _, _, _ => none
def iter (step : (St E → Option R) → St E → Option R) : Nat → St E → Option R
  | 0, _ => none
  | n + 1, S => step (iter step n) S
/-- The oracle: loops of at most k rounds, nested at most so deep. -/
noncomputable def orc (k : Nat) : Nat → Orc E R
  | 0, _, _, _ => none
  | d + 1, .loop b, K, S => match (keyOf b).bind (lk loops) with
    | some live => iter (fun rec S => runA T Γ loops cuts (orc k d) b S (kloop live rec K)) k S
    | none => none
  | d + 1, c, K, S => runA T Γ loops cuts (orc k d) c S K
end

/-! ### A function -/
/-- The blocks that a pointer that is only read leads to. -/
def entryCap (E : Env) : (c : Cap) → c.I E → (id : Nat) → Up E × Nat
  | .rb t, x, id => ([(id, .rbx (toCv E t x).cells)], id + 1)
  | .rpp t, x, id => ([(id, .rbx [.ptr (id + 1) 0]), (id + 1, .rbx (toCv E t x).cells)], id + 2)
def entryCaps (E : Env) : (cs : List Cap) → CT E cs → (id : Nat) → List (Cv E) × Up E × Nat
  | [], _, id => ([], [], id)
  | c :: cs, h, id => let a := entryCap E c h.1 id; let q := entryCaps E cs h.2 a.2; (.at (.ptr id 0) :: q.1, a.1 ++ q.2.1, q.2.2)
def entryP (E : Env) : (p : Par) → p.I E → (id : Nat) → AV E × Up E × Nat
  | .val t, x, id => (.c (toCv E t x), [], id)
  | .mut dp t, x, id => let a := newCv E dp t x id; (.c a.1, a.2.1, a.2.2)
  | .mov dp t, x, id => let a := newCv E dp t x id; (.c a.1, a.2.1, a.2.2)
  | .box dp b n, x, id => let a := newAts E dp (E.fl n) (E.opn n x) (id + 1); (.a (.ptr id 0), (id, .box b a.1) :: a.2.1, a.2.2)
  | .movb dp b n, x, id => let a := newAts E dp (E.fl n) (E.opn n x) (id + 1); (.a (.ptr id 0), (id, .box b a.1) :: a.2.1, a.2.2)
  | .clo f caps, x, id => let a := entryCaps E caps x id; (.clo f a.1, a.2.1, a.2.2)
  | .cap c, x, id => let a := entryCap E c x id; (.a (.ptr id 0), a.1, a.2)
def entry (E : Env) : (ps : List Par) → IT E ps → (slot id : Nat) → List (Nat × AV E) × Up E × Nat
  | [], _, _, id => ([], [], id)
  | p :: ps, h, s, id => let a := entryP E p h.1 id; let q := entry E ps h.2 (s + 1) a.2.2; ((s, a.1) :: q.1, a.2.1 ++ q.2.1, q.2.2)
def Par.back : Par → Bool
  | .mut _ _ => true
  | .box _ _ _ => true
  | _ => false
def pins : List Par → Nat → List Nat
  | [], _ => []
  | p :: ps, s => bif p.back then s :: pins ps (s + 1) else pins ps (s + 1)
/-- A function's captured variables come behind its parameters: a closure's own frame. -/
def entrySt (E : Env) (fn : Func) (ps : List Par) (x : IT E ps) : St E :=
  let q := entry E ps x 0 0; { ρ := q.1, H := q.2.1, nx := q.2.2, n := fn.ntmps, pin := pins ps 0 }
/-- A mutable parameter's data at the end, and the numbers of its blocks. -/
def endP (E : Env) : (p : Par) → Option (AV E) → RM E (p.O E × List Nat)
  | .mut dp t, some (.c v) => (ofCv E t v).bind fun d => (ownCv E false dp t v).bind fun m => .pure (d, m)
  | .box dp b n, some (.c (.at (.ptr id 0))) => .rd id fun
    | .box t cells => bif Nat.beq t b then (ofAts E (E.fl n) cells).bind fun h => (ownAll E true dp (E.fl n) cells).bind fun m => .pure (E.shut n h, id :: m) else .fail
    | _ => .fail
  | .val _, _ => .pure ((), [])
  | .clo _ _, _ => .pure ((), [])
  | .cap _, _ => .pure ((), [])
  | .mov _ _, _ => .pure ((), [])
  | .movb _ _ _, _ => .pure ((), [])
  | _, _ => .fail
/-- The mutable parameters' data at the end, and the numbers of their blocks. -/
def ends (E : Env) (ρ : Nat → Option (AV E)) : (ps : List Par) → (slot : Nat) → RM E (OT E ps × List Nat)
  | [], _ => .pure ((), [])
  | p :: ps, s => (endP E p (ρ s)).bind fun a => (ends E ρ ps (s + 1)).bind fun q => .pure ((a.1, q.1), a.2 ++ q.2)
def resOf (T : Tb) (ρ : Nat → Option (AV E)) : ResultVar → RM E (Cv E)
  | .tmp t => match ρ t with
    | some (.c v) => .pure v
    | _ => .fail
  | .cell a t => (aLoad T t (ρ a)).bind fun r => match r.1 with
    | .c v => .pure v
    | _ => .fail
def resAll (T : Tb) (ρ : Nat → Option (AV E)) : List ResultVar → RM E (List (Cv E))
  | [] => .pure []
  | r :: rs => (resOf T ρ r).bind fun v => (resAll T ρ rs).bind fun vs => .pure (v :: vs)
/-- Results all of whose slices are whole rows that may be written; their numbers. -/
def ownCvs (E : Env) (dp : Bool) : List Ty → List (Cv E) → RM E (List Nat)
  | [], [] => .pure []
  | t :: ts, v :: vs => (ownCv E true dp t v).bind fun m => (ownCvs E dp ts vs).bind fun ms => .pure (m ++ ms)
  | _, _ => .fail
def natsEq : List Nat → List Nat → Bool
  | [], [] => true
  | a :: r, b :: s => Nat.beq a b && natsEq r s
  | _, _ => false
theorem natsEq_eq : ∀ {a b : List Nat}, natsEq a b = true → a = b
  | [], [], _ => rfl
  | a :: r, b :: s, h => by
    simp only [natsEq, Bool.and_eq_true] at h
    rw [Nat.eq_of_beq_eq_true h.1, natsEq_eq h.2]
  | [], _ :: _, h => by cases h
  | _ :: _, [], h => by cases h
def finR (T : Tb) (fn : Func) (s : Spec E) (S : St E) : RM E s.R :=
  (resAll T (lk S.ρ) fn.results.toList).bind fun vs => (ofCvs E s.rs vs).bind fun r => (ends E (lk S.ρ) s.ps 0).bind fun q =>
    bif s.own then (ownCvs E s.dp s.rs vs).bind fun ms => bif nodupB (ms ++ q.2) then .pure (s.shut r q.1) else .fail
    else bif nodupB q.2 && !meets (vs.flatMap idsCv) q.2 && vs.all okCv then .pure (s.shut r q.1) else .fail
def kfin (T : Tb) (fn : Func) (s : Spec E) : KT E s.R := fun ex S => match ex with
  | .exit _ => none
  | _ => bif natsEq S.pin (pins s.ps 0) then (finR T fn s S).run S.h [] fun a _ => some a else none
noncomputable def runF (T : Tb) (Γ : Ctx E) (loops cuts : Live) (fn : Func) (c : Code) (s : Spec E) (o : Orc E s.R) (x : IT E s.ps) : Option s.R :=
  runA T Γ loops cuts o c (entrySt E fn s.ps x) (kfin T fn s)
end Mir
