/- The mirror machine: operations. -/
import Derived.Test.YtbepkbaemapkjaaMir0
namespace Mir
set_option linter.unusedVariables false
open Go
variable {E : Env}

abbrev Up (E : Env) := List (Nat × Blk E)
abbrev Res (E : Env) := AV E × Up E

def ofVal : Value → Option (AV E)
  | v => (cvOfVal v).map .c
def evO (ρ : Nat → Option (AV E)) : Operand → Option (AV E)
  | .tmp t => ρ t
  | .const v => ofVal v
  | .func f => some (.clo f [])
  | .global _ => none
def opdEq : Operand → Operand → Bool
  | .tmp a, .tmp b => Nat.beq a b
  | .const (.int _ a), .const (.int _ b) => decide (a = b)
  | _, _ => false

def one (v : AV E) : RM E (Res E) := .pure (v, [])
def oneO (v : Option (AV E)) : RM E (Res E) := match v with
  | some v => .pure (v, [])
  | none => .fail

def aPick (c a b : Option (AV E)) : RM E (Res E) := match c with
  | some (.c (.at (.bool c))) => match a, b with
    | some (.c (.at .undef)), some y => .chk (!c) (one y)
    | some x, some (.c (.at .undef)) => .chk c (one x)
    | some (.c (.at (.bool x))), some (.c (.at (.bool y))) => one (.bool (bif c then x else y))
    | some (.c (.at (.int k x))), some (.c (.at (.int k' y))) => bif ikEq k k' then one (.int k (bif c then x else y)) else .fail
    | some (.c (.at (.str x))), some (.c (.at (.str y))) => one (.str (bif c then x else y))
    | _, _ => .fail
  | _ => .fail

/-- A value that a cell takes. -/
def okAt : At E → Bool
  | .dead => false
  | .undef => false
  | .unk _ _ => false
  | _ => true
def aBox (fr : Nat) (t : TypeId) : Option (Cv E) → RM E (Res E)
  | some (.at x) => bif okAt x then .pure (.a (.ptr fr 0), [(fr, .box t [x])]) else .fail
  | some (.agg xs) => .pure (.a (.ptr fr 0), [(fr, .box t xs)])
  | some (.arr k n xs) => .pure (.a (.ptr fr 0), [(fr, .arr t k n xs)])
  | none => .fail
def asCv : Option (AV E) → Option (Cv E)
  | some (.c v) => some v
  | _ => none

/-- What a variable of type t holds whose cells begin ahead. -/
def partOf (T : Tb) (t : TypeId) (cs : List (At E)) : RM E (Res E) := match T.agg t with
  | some true => match T.size t with
    | some n => bif Nat.beq (cs.take n).length n then one (.c (.agg (cs.take n))) else .fail
    | none => .fail
  | some false => match cs with
    | x :: _ => one (.a x)
    | [] => .fail
  | none => .fail
/-- An array or a struct of so many cells. -/
def aggIs (T : Tb) (t : TypeId) (n : Nat) : Bool := match T.agg t, T.size t with
  | some true, some m => Nat.beq m n
  | _, _ => false
/-- A type of one cell. -/
def cellIs (T : Tb) (t : TypeId) : Bool := match T.agg t, T.size t with
  | some false, some 1 => true
  | _, _ => false
def sizeIs (T : Tb) (t : TypeId) (n : Nat) : Bool := match T.size t with
  | some m => Nat.beq m n
  | none => false
def aLoad (T : Tb) (t : TypeId) : Option (AV E) → RM E (Res E)
  | some (.c (.at (.ptr id off))) => .rd id fun
    | .box _ cells => partOf T t (cells.drop off)
    | .arr t' ty n xs => bif Nat.beq t t' && Nat.beq off 0 && aggIs T t n then one (.c (.arr ty n xs)) else .fail
    | .rbx cells => partOf T t (cells.drop off)
    | _ => .fail
  | some (.c (.at (.eptr id i off))) => .rd id fun
    | .row _ ty xs _ => partOf T t ((toCv E ty (el E ty xs i)).cells.drop off)
    | .arr _ k _ xs => bif Nat.beq off 0 then partOf T t [.int k (xs.getD i 0)] else .fail
    | _ => .fail
  | some (.rp cells) => partOf T t cells
  | _ => .fail

/-- Rows that are moved into another one are written no more. -/
def frzAt : At E → RM E (Up E)
  | .own id => .rd id fun
    | .row e t xs _ => .pure [(id, .row e t xs true)]
    | .drow e t xs _ => .pure [(id, .row e t xs true)]
    | _ => .fail
  | .sub id _ _ => .rd id fun
    | .row e t xs _ => .pure [(id, .row e t xs true)]
    | _ => .fail
  | .inn id _ _ _ => .rd id fun
    | .drow e t xs _ => .pure [(id, .row e t xs true)]
    | _ => .fail
  | _ => .pure []
def frz : List (At E) → RM E (Up E)
  | [] => .pure []
  | x :: r => (frzAt x).bind fun u => (frz r).bind fun v => .pure (u ++ v)
/-- A value that goes into a cell, or an array. -/
def okCv : Cv E → Bool
  | .at x => okAt x
  | .agg xs => xs.all okAt
  | .arr _ _ _ => true
def frzCv : Cv E → RM E (Up E)
  | .arr _ _ _ => .pure []
  | v => frz v.cells
theorem okCv_all : ∀ {v : Cv E}, okCv v = true → v.cells.all okAt = true
  | .at x, h => by simp [Cv.cells, show okAt x = true from h]
  | .agg xs, h => h
  | .arr k n xs, _ => by simp [Cv.cells, okAt]
def putAt {α : Type} (cs : List α) (off : Nat) (vs : List α) : List α := cs.take off ++ vs ++ cs.drop (off + vs.length)
def aStore (T : Tb) (t : TypeId) (addr : Option (AV E)) (val : Option (Cv E)) : RM E (Res E) := match val, T.size t with
  | some v, some n => bif okCv v then match addr with
    | some (.c (.at (.ptr id off))) => .rd id fun
      | .box t0 cells => match v with
        | .arr _ _ _ => .fail
        | v => bif Nat.beq v.cells.length n && Nat.ble (off + n) cells.length then .pure (.dead, [(id, .box t0 (putAt cells off v.cells))]) else .fail
      | .arr t0 ty m _ => match v with
        | .arr k' m' xs' => bif Nat.beq m m' && Nat.beq off 0 && Nat.beq n m && ikEq k' ty then .pure (.dead, [(id, .arr t0 ty m xs')]) else .fail
        | _ => .fail
      | _ => .fail
    | some (.c (.at (.eptr id i off))) => .rd id fun
      | .row e ty xs false => match ty with
        | .st s => bif Nat.beq v.cells.length n && Nat.ble (off + n) (E.fl s).length then
            (frz v.cells).bind fun u => bif (lk u id).isNone then (ofAts E (E.fl s) (putAt (toAts E (E.fl s) (E.opn s (el E (.st s) xs i))) off v.cells)).bind fun h =>
              .pure (.dead, (id, .row e (.st s) (xs.set i (E.shut s h)) false) :: u)
            else .fail
          else .fail
        | .slice _ _ => .fail
        | .arr _ _ => .fail
        | .pbx _ _ => .fail
        | .rsl _ _ => .fail
        | ty => bif Nat.beq off 0 && Nat.beq n 1 then (ofCv E ty v).bind fun d => .pure (.dead, [(id, .row e ty (xs.set i d) false)]) else .fail
      | .arr t0 k m xs => bif Nat.beq off 0 && Nat.beq n 1 then (ofCv E (.int k) v).bind fun d => .pure (.dead, [(id, .arr t0 k m (xs.set i d))]) else .fail
      | _ => .fail
    | _ => .fail
    else .fail
  | _, _ => .fail

def fieldOf (T : Tb) (s : TypeId) (f : Nat) : Option Field := match T.und s with
  | some (.struct fs) => fs[f]?
  | _ => none
def aFieldAddr (T : Tb) (s : TypeId) (x : Option (AV E)) (f : Nat) : RM E (Res E) := match fieldOf T s f with
  | some fd => match T.size fd.type with
    | some (_ + 1) => match x with
      | some (.c (.at (.ptr id off))) => one (.a (.ptr id (off + fd.offset)))
      | some (.c (.at (.eptr id i off))) => one (.a (.eptr id i (off + fd.offset)))
      | some (.rp cells) => one (.rp (cells.drop fd.offset))
      | _ => .fail
    | _ => .fail
  | none => .fail
def aField (T : Tb) (s : TypeId) (x : Option (AV E)) (f : Nat) : RM E (Res E) := match fieldOf T s f, x with
  | some fd, some (.c (.agg xs)) => partOf T fd.type (xs.drop fd.offset)
  | _, _ => .fail

def aIndexAddr (T : Tb) (t : TypeId) (x i : Option (AV E)) : RM E (Res E) := match i with
  | some (.c (.at (.int _ n))) => match T.und t with
    | some (.slice e) => match x with
      | some (.c (.at (.own id))) => .rd id fun
        | .row _ ty xs _ => bif sizeIs T e (tsz E ty) then .chk (decide (0 ≤ n)) (.chk (decide (n < (xs.length : Int))) (one (.a (.eptr id n.toNat 0)))) else .fail
        | _ => .fail
      | some (.c (.at (.sub id off len))) => .rd id fun
        | .row _ ty _ _ => bif sizeIs T e (tsz E ty) then .chk (decide (0 ≤ n)) (.chk (decide (n < (len : Int))) (one (.a (.eptr id (off + n.toNat) 0)))) else .fail
        | _ => .fail
      | some (.c (.at (.ro _ ty xs))) => bif sizeIs T e (tsz E ty) then .chk (decide (0 ≤ n)) (.chk (decide (n < (xs.length : Int))) (one (.rp (toCv E ty (el E ty xs n.toNat)).cells))) else .fail
      | _ => .fail
    | some (.array len e) => match x with
      | some (.c (.at (.ptr id 0))) => .rd id fun
        | .arr t' _ m _ => bif Nat.beq t t' && Nat.beq len m && cellIs T e then .chk (decide (0 ≤ n)) (.chk (decide (n < (m : Int))) (one (.a (.eptr id n.toNat 0)))) else .fail
        | _ => .fail
      | _ => .fail
    | _ => .fail
  | _ => .fail
def aIndex (T : Tb) (t : TypeId) (x i : Option (AV E)) : RM E (Res E) := match i with
  | some (.c (.at (.int _ n))) => match T.und t with
    | some .string => match x with
      | some (.c (.at (.str s))) => .chk (decide (0 ≤ n)) (.chk (decide (n < (s.size : Int))) (one (.int .u8 (sb s n))))
      | _ => .fail
    | some (.array len e) => match x with
      | some (.c (.arr ty m xs)) => bif Nat.beq len m && cellIs T e then .chk (decide (0 ≤ n)) (.chk (decide (n < (m : Int))) (one (.int ty (xs.getD n.toNat 0)))) else .fail
      | _ => .fail
    | _ => .fail
  | _ => .fail

/-- A bound of a slice expression: none, or a number from 0 to m. -/
def bnd (x : Option (Option (AV E))) (m : Int) (dflt : Nat) (k : Nat → RM E (Res E)) : RM E (Res E) := match x with
  | none => k dflt
  | some (some (.c (.at (.int _ n)))) => .chk (decide (0 ≤ n)) (.chk (decide (n ≤ m)) (k n.toNat))
  | _ => .fail
def aSlice (T : Tb) (t : TypeId) (x : Option (AV E)) (lo hi mx : Option (Option (AV E))) : RM E (Res E) := match mx with
  | none => match T.und t with
    | some .string => match x with
      | some (.c (.at (.str s))) => bnd hi (s.size : Int) s.size fun h => bnd lo (h : Int) 0 fun l => one (.str (s.extract l h))
      | _ => .fail
    | some (.slice el) => match x with
      | some (.c (.at (.own id))) => .rd id fun
        | .row _ ty xs _ => bif sizeIs T el (tsz E ty) then bnd hi (xs.length : Int) xs.length fun h => bnd lo (h : Int) 0 fun l => one (.a (.sub id l (h - l))) else .fail
        | _ => .fail
      | some (.c (.at (.sub id off len))) => .rd id fun
        | .row _ ty _ _ => bif sizeIs T el (tsz E ty) then bnd hi (len : Int) len fun h => bnd lo (h : Int) 0 fun l => one (.a (.sub id (off + l) (h - l))) else .fail
        | _ => .fail
      | some (.c (.at (.ro e ty xs))) => bif sizeIs T el (tsz E ty) then match hi with
        | none => bnd lo (xs.length : Int) 0 fun l => one (.a (.ro e ty (xs.drop l)))
        | hi => bnd hi (xs.length : Int) xs.length fun h => match lo with
          | none => one (.a (.ro e ty (xs.take h)))
          | lo => bnd lo (h : Int) 0 fun l => one (.a (.ro e ty ((xs.take h).drop l)))
        else .fail
      | _ => .fail
    | _ => .fail
  | some (some (.c (.at (.int _ 0)))) => match T.und t, lo, hi with
    | some (.slice e), none, some (some (.c (.at (.int _ 0)))) => bif (T.size e).isSome then match x with
      | some (.c (.at (.own id))) => .rd id fun
        | .row _ _ _ _ => one (.a .nils)
        | _ => .fail
      | some (.c (.at (.sub _ _ _))) => one (.a .nils)
      | some (.c (.at (.ro _ _ _))) => one (.a .nils)
      | some (.c (.at .nils)) => one (.a .nils)
      | _ => .fail
      else .fail
    | _, _, _ => .fail
  | _ => .fail

/-- The elements of a slice whose rows are read. -/
def srcAt (E : Env) (e : TypeId) (t : Ty) : At E → RM E (List (Ty.D E.S t))
  | .ro e' t' xs => castR E e t e' t' xs
  | .own id => .rd id fun
    | .row e' t' xs _ => castR E e t e' t' xs
    | _ => .fail
  | .sub id off len => .rd id fun
    | .row e' t' xs _ => .chk (decide (off + len ≤ xs.length)) (castR E e t e' t' ((xs.drop off).take len))
    | _ => .fail
  | .nils => .pure []
  | _ => .fail
/-- The elements of a slice (or the bytes of a text), as data of a type. -/
def elems (E : Env) (e : TypeId) (ty : Ty) : Option (AV E) → RM E (List (Ty.D E.S ty))
  | some (.c (.at (.str s))) => match ty with
    | .int .u8 => .pure (bytesOf s)
    | _ => .fail
  | some (.c (.at x)) => srcAt E e ty x
  | _ => .fail
/-- The zero value has the type's cells. -/
def zOK (T : Tb) (e : TypeId) (sz : Nat) : Bool := match T.zero e with
  | some v => Nat.beq v.cells.toList.length sz
  | none => false
/-- Is the second operand of an append a slice or a text? -/
def notInt (T : Tb) (t : TypeId) : Bool := match T.und t with
  | some (.slice _) => true
  | some .string => true
  | _ => false
def aAppend (T : Tb) (fr : Nat) (t u : TypeId) (x y : Option (AV E)) : RM E (Res E) := match T.elem t with
  | some (e, ty) => match T.bytes e, T.size e with
    | some b, some sz => bif Nat.beq sz (tsz E ty) && Nat.blt 0 sz && Nat.blt 0 b && notInt T u && zOK T e sz then (elems E e ty y).bind fun ys => match x with
      | some (.c (.at (.own id))) => .rd id fun
        | .row e' ty' xs false => (castR E e ty e' ty' xs).bind fun xs => .chk (room (xs.length + ys.length) b) (.pure (.a (.own fr), [(fr, .row e ty (xs ++ ys) false), (id, .gone)]))
        | _ => .fail
      | some (.c (.at (.sub id 0 len))) => .rd id fun
        | .row e' ty' xs false => (castR E e ty e' ty' xs).bind fun xs => .chk (room (len + ys.length) b) (.pure (.a (.own fr), [(fr, .row e ty (xs.take len ++ ys) false), (id, .gone)]))
        | _ => .fail
      | some (.c (.at .nils)) => .chk (room ys.length b) (.pure (.a (.own fr), [(fr, .row e ty ys false)]))
      | _ => .fail
      else .fail
    | _, _ => .fail
  | none => .fail
def aLen (T : Tb) (t : TypeId) (x : Option (AV E)) : RM E (Res E) := match T.und t with
  | some .string => match x with
    | some (.c (.at (.str s))) => one (.int .i64 (s.size : Int))
    | _ => .fail
  | some (.slice _) => match x with
    | some (.c (.at (.own id))) => .rd id fun
      | .row _ _ xs _ => one (.int .i64 (xs.length : Int))
      | _ => .fail
    | some (.c (.at (.sub _ _ len))) => one (.int .i64 (len : Int))
    | some (.c (.at (.ro _ _ xs))) => one (.int .i64 (xs.length : Int))
    | some (.c (.at .nils)) => one (.int .i64 0)
    | _ => .fail
  | _ => .fail
/-- A row that is written: all of it, or a part. -/
def dstRow (T : Tb) (t : TypeId) (x : Option (AV E)) (k : (id : Nat) → (e : Nat) → (ty : Ty) → List (Ty.D E.S ty) → (off len : Nat) → RM E (Res E)) : RM E (Res E) := match T.und t with
  | some (.slice el) => match x with
    | some (.c (.at (.own id))) => .rd id fun
      | .row e ty xs false => bif Nat.beq e el && sizeIs T el (tsz E ty) then k id e ty xs 0 xs.length else .fail
      | _ => .fail
    | some (.c (.at (.sub id off len))) => .rd id fun
      | .row e ty xs false => bif Nat.beq e el && sizeIs T el (tsz E ty) then .chk (decide (off + len ≤ xs.length)) (k id e ty xs off len) else .fail
      | _ => .fail
    | _ => .fail
  | _ => .fail
def aCopy (T : Tb) (t : TypeId) (x y : Option (AV E)) : RM E (Res E) :=
  dstRow T t x fun id e ty xs off len => (elems E e ty y).bind fun ys =>
    .pure (.int .i64 (min ys.length len : Nat), [(id, .row e ty (xs.take off ++ (ys.take len ++ xs.drop (off + min ys.length len))) false)])
/-- The zero datum of an element type. -/
def zeroD (T : Tb) (E : Env) (e : TypeId) (ty : Ty) : RM E (Ty.D E.S ty) := match T.zeroCv E e with
  | some v => bif v.cells.all okAt && ty.elemB then ofCv E ty v else .fail
  | none => .fail
def aClear (T : Tb) (t : TypeId) (x : Option (AV E)) : RM E (Res E) :=
  dstRow T t x fun id e ty xs off len => bif zOK T e (tsz E ty) then (zeroD T E e ty).bind fun z =>
    .pure (.tup [], [(id, .row e ty (xs.take off ++ (List.replicate len z ++ xs.drop (off + len))) false)]) else .fail
def aMinMax (mx : Bool) (x y : Option (AV E)) : RM E (Res E) := match x, y with
  | some (.c (.at (.int k x))), some (.c (.at (.int k' y))) => bif ikEq k k' then one (.int k (if mx then (if x < y then y else x) else (if y < x then y else x))) else .fail
  | _, _ => .fail

def iop (op : BinOp) (k : IntKind) (a b : Int) : Option (AV E) := match op with
  | .add => some (.int k (k.wrap (a + b)))
  | .sub => some (.int k (k.wrap (a - b)))
  | .mul => some (.int k (k.wrap (a * b)))
  | .and => some (.int k (ibit .and k a b))
  | .or => some (.int k (ibit .or k a b))
  | .xor => some (.int k (ibit .xor k a b))
  | .andNot => some (.int k (ibit .andNot k a b))
  | .eql => some (.bool (a == b))
  | .neq => some (.bool (a != b))
  | .lss => some (.bool (decide (a < b)))
  | .leq => some (.bool (decide (a ≤ b)))
  | .gtr => some (.bool (decide (a > b)))
  | .geq => some (.bool (decide (a ≥ b)))
  | _ => none
def sop (op : BinOp) (x y : ByteArray) : Option (AV E) := match op with
  | .eql => some (.bool (seq x y))
  | .neq => some (.bool (!seq x y))
  | .lss => some (.bool (slt x y))
  | .leq => some (.bool (slt x y || seq x y))
  | .gtr => some (.bool (!(slt x y || seq x y)))
  | .geq => some (.bool (!slt x y))
  | _ => none
def aBin (T : Tb) (op : BinOp) (t : TypeId) (x y : Option (AV E)) : RM E (Res E) := match x, y with
  | some (.c (.at (.int k a))), some (.c (.at (.int k' b))) => match op with
    | .shl => .chk (!decide (b < 0)) (one (.int k (k.wrap (a * 2 ^ (min b.toNat k.bits)))))
    | .shr => .chk (!decide (b < 0)) (one (.int k (a.fdiv (2 ^ (min b.toNat k.bits)))))
    | .quo => bif ikEq k k' then .chk (!decide (b = 0)) (one (.int k (k.wrap (a.tdiv b)))) else .fail
    | .rem => bif ikEq k k' then .chk (!decide (b = 0)) (one (.int k (a.tmod b))) else .fail
    | op => bif ikEq k k' then oneO (iop op k a b) else .fail
  | some (.c (.at (.str a))), some (.c (.at (.str b))) => match op with
    | .add => .chk (decide (a.size + b.size ≤ 9223372036854775807)) (one (.str (a ++ b)))
    | op => oneO (sop op a b)
  | some (.c (.at (.bool a))), some (.c (.at (.bool b))) => match T.und t, op with
    | some .bool, .eql => one (.bool (a == b))
    | some .bool, .neq => one (.bool (!(a == b)))
    | _, _ => .fail
  | _, _ => .fail
def cellEq (d : Option TypeDesc) : List (At E) → List (At E) → Option Bool
  | .int k a :: _, .int k' b :: _ => match d with
    | some (.int _) => if ikEq k k' = true then some (a == b) else none
    | _ => none
  | .bool a :: _, .bool b :: _ => match d with
    | some .bool => some (a == b)
    | _ => none
  | .str a :: _, .str b :: _ => match d with
    | some .string => some (seq a b)
    | _ => none
  | _, _ => none
/-- A field's cells. -/
def fieldCells (T : Tb) (f : Field) (xs : List (At E)) : Option (List (At E)) := match T.agg f.type with
  | some true => match T.size f.type with
    | some n => some ((xs.drop f.offset).take n)
    | none => none
  | some false => some (xs.drop f.offset)
  | none => none
def eqFs (T : Tb) (rec : TypeId → List (At E) → List (At E) → Option Bool) (xs ys : List (At E)) : List Field → Option Bool
  | [] => some true
  | f :: fs => bif f.name == "_" then none else match fieldCells T f xs, fieldCells T f ys with
    | some us, some vs => match rec f.type us vs with
      | some b => match fs with
        | [] => some b
        | fs => match eqFs T rec xs ys fs with
          | some c => some (b && c)
          | none => none
      | none => none
    | _, _ => none
/-- Are the values of a type equal whose cells begin ahead? -/
def eqAt (T : Tb) : Nat → TypeId → List (At E) → List (At E) → Option Bool
  | 0, _, _, _ => none
  | d + 1, t, xs, ys => match T.und t with
    | some (.struct fs) => bif T.eqt t then eqFs T (eqAt T d) xs ys fs.toList else none
    | u => bif cellIs T t then cellEq u xs ys else none
def aEqS (T : Tb) (ne : Bool) (t : TypeId) : Option (AV E) → Option (AV E) → RM E (Res E)
  | some (.c (.agg xs)), some (.c (.agg ys)) => match T.und t with
    | some (.struct _) => match eqAt T 8 t xs ys with
      | some b => one (.bool (bif ne then !b else b))
      | none => .fail
    | _ => .fail
  | _, _ => .fail
/-- Is the operand the constant nil slice? -/
def isNilC : Operand → Bool
  | .const (.slice none 0 0) => true
  | _ => false
def unkNil (ne b : Bool) : AV E := bif ne then .a (.unk true b) else .a (.unk b true)
/-- A slice beside nil: nobody knows, but that nil has no elements. -/
def aNil (T : Tb) (ne : Bool) (t : TypeId) (x : Option (AV E)) : RM E (Res E) := match T.und t with
  | some (.slice _) => match x with
    | some (.c (.at (.ro _ _ xs))) => one (unkNil ne xs.isEmpty)
    | some (.c (.at (.own id))) => .rd id fun
      | .row _ _ xs _ => one (unkNil ne xs.isEmpty)
      | _ => .fail
    | _ => .fail
  | _ => .fail
def aUn (op : UnOp) (x : Option (AV E)) : RM E (Res E) := match op, x with
  | .not, some (.c (.at (.bool b))) => one (.bool (!b))
  | .neg, some (.c (.at (.int k n))) => one (.int k (k.wrap (0 - n)))
  | .xor, some (.c (.at (.int k n))) => one (.int k (ibit .xor k (if k.signed then -1 else k.max) n))
  | _, _ => .fail
def aConv (T : Tb) (fr : Nat) (src dst : TypeId) (x : Option (AV E)) : RM E (Res E) := match T.und src, T.und dst, x with
  | some (.int _), some (.int k), some (.c (.at (.int _ n))) => one (.int k (k.wrap n))
  | some .string, some .string, some (.c (.at (.str s))) => one (.str s)
  | some .string, some (.slice e), some (.c (.at (.str s))) => match T.und e with
    | some (.int .u8) => .chk (room s.size 1) (.pure (.a (.own fr), [(fr, .row e (.int .u8) (bytesOf s) false)]))
    | _ => .fail
  | some (.slice e), some .string, some (.c (.at x)) => match T.und e with
    | some (.int .u8) => (srcAt E e (.int .u8) x).bind fun xs => one (.str (strOf xs))
    | _ => .fail
  | _, _, _ => .fail

/-- A struct's or an array's parts, filled in. -/
def fills (T : Tb) (fs : Array Field) : List (Nat × Option (AV E)) → List (At E) → Option (List (At E))
  | [], cs => some cs
  | (i, v) :: r, cs => match fs[i]?, asCv v with
    | some _, some (.arr _ _ _) => none
    | some fd, some v => match T.size fd.type with
      | some n => bif Nat.beq v.cells.length n && Nat.ble (fd.offset + n) cs.length && v.cells.all okAt then fills T fs r (putAt cs fd.offset v.cells) else none
      | none => none
    | _, _ => none
def fillL {α : Type} : List (Nat × α) → List α → Option (List α)
  | [], l => some l
  | (i, x) :: r, l => bif Nat.blt i l.length then fillL r (l.set i x) else none
def elemsL (E : Env) (ty : Ty) : List (Nat × Option (AV E)) → RM E (List (Nat × Ty.D E.S ty) × Up E)
  | [] => .pure ([], [])
  | (i, v) :: r => match asCv v with
    | some v => bif v.cells.all okAt && ty.elemB then (frz v.cells).bind fun u => (ofCv E ty v).bind fun d => (elemsL E ty r).bind fun q => .pure ((i, d) :: q.1, u ++ q.2) else .fail
    | none => .fail
def aBuild (T : Tb) (t : TypeId) (parts : List (Nat × Option (AV E))) : RM E (Res E) := match T.und t with
  | some (.struct fs) => bif fs.toList.all fun f => (T.size f.type).isSome then match T.zeroCv E t with
    | some (.agg cs) => match fills T fs parts cs with
      | some cs => one (.c (.agg cs))
      | none => .fail
    | _ => .fail
    else .fail
  | some (.array n e) => match T.ty 1 e, T.size e, T.zeroCv E t with
    | some (.int k), some 1, some (.arr k' n' _) => bif ikEq k k' && Nat.beq n n' then (elemsL E (.int k) parts).bind fun q => match fillL q.1 (List.replicate n (0 : Int)) with
      | some xs => .pure (.c (.arr k n xs), q.2)
      | none => .fail
      else .fail
    | _, _, _ => .fail
  | _ => .fail
def aBuildSlice (T : Tb) (fr : Nat) (t : TypeId) (len : Nat) (parts : List (Nat × Option (AV E))) : RM E (Res E) := match T.elem t with
  | some (e, ty) => match T.size e with
    | some sz => bif Nat.beq sz (tsz E ty) && Nat.blt 0 sz && Nat.ble (len * sz) 16777216 && zOK T e sz then
        (zeroD T E e ty).bind fun z => (elemsL E ty parts).bind fun q => match fillL q.1 (List.replicate len z) with
          | some xs => .pure (.a (.own fr), (fr, .row e ty xs false) :: q.2)
          | none => .fail
      else .fail
    | none => .fail
  | none => .fail
def aMakeSlice (T : Tb) (fr : Nat) (t : TypeId) (same : Bool) (l c : Option (AV E)) : RM E (Res E) := match T.elem t with
  | some (e, ty) => match T.bytes e, T.size e with
    | some b, some sz => bif Nat.beq sz (tsz E ty) && Nat.blt 0 sz && Nat.blt 0 b && zOK T e sz then (zeroD T E e ty).bind fun z => match l, c with
      | some (.c (.at (.int .i64 l))), some (.c (.at (.int .i64 c))) => bif same
        then .chk (decide (0 ≤ l)) (.chk (room l.toNat b) (.pure (.a (.own fr), [(fr, .row e ty (List.replicate l.toNat z) false)])))
        else .chk (decide (l = 0)) (.chk (decide (0 ≤ c)) (.chk (room c.toNat b) (.pure (.a (.own fr), [(fr, .row e ty [] false)]))))
      | _, _ => .fail
      else .fail
    | _, _ => .fail
  | none => .fail
def aExtract (x : Option (AV E)) (i : Nat) : RM E (Res E) := match x with
  | some (.tup vs) => oneO (vs[i]?.map .c)
  | _ => .fail
def aNilCheck : Option (AV E) → RM E (Res E)
  | some (.c (.at (.ptr id off))) => one (.a (.ptr id off))
  | some (.c (.at (.eptr id i off))) => one (.a (.eptr id i off))
  | some (.rp cs) => one (.rp cs)
  | some (.clo f cs) => one (.clo f cs)
  | _ => .fail
def cvs : List (Option (AV E)) → Option (List (Cv E))
  | [] => some []
  | x :: r => match asCv x, cvs r with
    | some v, some vs => some (v :: vs)
    | _, _ => none
def aMakeFunc (fn : Fn) (first : List (Option (AV E))) (cap : List (Option (AV E))) : RM E (Res E) := match fn, first with
  | .func f, [] => oneO ((cvs cap).map (.clo f))
  | _, _ => .fail

def aMakeMap (T : Tb) (fr : Nat) (t : TypeId) : RM E (Res E) := match T.und t with
  | some (.map kt et) => match T.und kt, T.und et with
    | some (.int k), some (.struct _) => .pure (.a (.mp fr), [(fr, .mp k et [])])
    | _, _ => .fail
  | _ => .fail
/-- The entry at a key, else the zero datum; and whether it was there. -/
def aLookup (T : Tb) (t : TypeId) (ok : Bool) (m x : Option (AV E)) : RM E (Res E) := match T.und t, m, x with
  | some (.map kt et), some (.c (.at (.mp id))), some (.c (.at (.int k n))) => match T.und kt, T.zeroCv E et with
    | some (.int k0), some (.agg _) => bif ikEq k k0 then (zeroD T E et (.st et)).bind fun z => .rd id fun
      | .mp k1 n1 es => if h : Nat.beq n1 et = true then bif ikEq k k1 then
          (let y : Option (E.S et) := Nat.eq_of_beq_eq_true h ▸ mpGet n es
          bif ok then .pure (.tup [toCv E (.st et) (y.getD z), .at (.bool y.isSome)], []) else .pure (.c (toCv E (.st et) (y.getD z)), [])) else .fail else .fail
      | _ => .fail
      else .fail
    | _, _ => .fail
  | _, _, _ => .fail
def aMapUpd (T : Tb) (t : TypeId) (m x : Option (AV E)) (v : Option (Cv E)) : RM E (Res E) := match T.und t, m, x, v with
  | some (.map kt et), some (.c (.at (.mp id))), some (.c (.at (.int k n))), some (.agg xs) => match T.und kt with
    | some (.int k0) => bif ikEq k k0 && xs.all okAt then (frz xs).bind fun u => .rd id fun
      | .mp k1 n1 es => bif ikEq k k1 && Nat.beq n1 et then (ofCv E (.st n1) (.agg xs)).bind fun d => .pure (.dead, (id, .mp k1 n1 (mpSet n d es)) :: u) else .fail
      | _ => .fail
      else .fail
    | _ => .fail
  | _, _, _, _ => .fail
/-- One operation that is no call of a function with a body. -/
def aop (T : Tb) (fr : Nat) (ρ : Nat → Option (AV E)) : Op → RM E (Res E)
  | .move x => oneO (evO ρ x)
  | .assign x => oneO (evO ρ x)
  | .pick c a b => aPick (evO ρ c) (evO ρ a) (evO ρ b)
  | .alloc t => aBox fr t (T.zeroCv E t)
  | .box t x => aBox fr t (asCv (evO ρ x))
  | .build t parts => aBuild T t (parts.toList.map fun p => (p.1, evO ρ p.2))
  | .buildSlice t len parts => aBuildSlice T fr t len (parts.toList.map fun p => (p.1, evO ρ p.2))
  | .load t x => aLoad T t (evO ρ x)
  | .store t x v => aStore T t (evO ρ x) (asCv (evO ρ v))
  | .nilCheck x => aNilCheck (evO ρ x)
  | .binOp op t x y _ => match op, isNilC y, evO ρ x with
    | .eql, true, x => aNil T false t x
    | .neq, true, x => aNil T true t x
    | .eql, false, some (.c (.agg xs)) => aEqS T false t (some (.c (.agg xs))) (evO ρ y)
    | .neq, false, some (.c (.agg xs)) => aEqS T true t (some (.c (.agg xs))) (evO ρ y)
    | op, _, x => aBin T op t x (evO ρ y)
  | .unOp op _ x => aUn op (evO ρ x)
  | .convert s d x => aConv T fr s d (evO ρ x)
  | .makeFunc fn first cap => aMakeFunc fn (first.toList.map (evO ρ)) (cap.toList.map (evO ρ))
  | .makeMap t none => aMakeMap T fr t
  | .lookup t x i ok => aLookup T t ok (evO ρ x) (evO ρ i)
  | .mapUpdate t m k v => aMapUpd T t (evO ρ m) (evO ρ k) (asCv (evO ρ v))
  | .makeSlice t l c => aMakeSlice T fr t (opdEq l c) (evO ρ l) (evO ρ c)
  | .slice t x lo hi mx => aSlice T t (evO ρ x) (lo.map (evO ρ)) (hi.map (evO ρ)) (mx.map (evO ρ))
  | .fieldAddr s x f => aFieldAddr T s (evO ρ x) f
  | .field s x f => aField T s (evO ρ x) f
  | .indexAddr t x i => aIndexAddr T t (evO ρ x) (evO ρ i)
  | .index t x i => aIndex T t (evO ρ x) (evO ρ i)
  | .extract x i => aExtract (evO ρ x) i
  | .call c => match c.callee with
    | .builtin .append => match c.args.toList, c.argTypes.toList with
      | [x, y], [t, u] => aAppend T fr t u (evO ρ x) (evO ρ y)
      | _, _ => .fail
    | .builtin .len => match c.args.toList, c.argTypes.toList with
      | [x], [t] => aLen T t (evO ρ x)
      | _, _ => .fail
    | .builtin .copy => match c.args.toList, c.argTypes.toList with
      | [x, y], [t, u] => aCopy T t (evO ρ x) (evO ρ y)
      | _, _ => .fail
    | .builtin .clear => match c.args.toList, c.argTypes.toList with
      | [x], [t] => aClear T t (evO ρ x)
      | _, _ => .fail
    | .builtin .min => match c.args.toList with
      | [x, y] => aMinMax false (evO ρ x) (evO ρ y)
      | _ => .fail
    | .builtin .max => match c.args.toList with
      | [x, y] => aMinMax true (evO ρ x) (evO ρ y)
      | _ => .fail
    | _ => .fail
  | _ => .fail
end Mir
