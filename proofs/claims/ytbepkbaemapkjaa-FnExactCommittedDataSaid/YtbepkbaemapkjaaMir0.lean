/- The mirror machine: a deterministic symbolic machine over loaded code. Definitions only. -/
import Derived.LoopN
import Derived.Orders
import Derived.KernelRfl
import Derived.Below
namespace Mir
set_option linter.unusedVariables false
open Go

/-! ### Types and data -/
inductive Ty where
  | int (k : IntKind)
  | bool
  | str
  | slice (e : Nat) (t : Ty)
  | st (n : Nat)
  | arr (k : IntKind) (n : Nat)
  | rsl (e : Nat) (t : Ty)
  /-- A new box of block type b, with a struct's data: a result. -/
  | pbx (b n : Nat)

@[reducible] def Ty.D (S : Nat → Type) : Ty → Type
  | .int _ => Int
  | .bool => Bool
  | .str => ByteArray
  | .slice _ t => List (Ty.D S t)
  | .st n => S n
  | .arr _ _ => List Int
  | .rsl _ t => List (Ty.D S t)
  | .pbx _ n => S n

@[reducible] def HT (S : Nat → Type) : List Ty → Type
  | [] => Unit
  | t :: ts => Ty.D S t × HT S ts

def ikEq : IntKind → IntKind → Bool
  | .i8, .i8 => true | .i16, .i16 => true | .i32, .i32 => true | .i64, .i64 => true
  | .u8, .u8 => true | .u16, .u16 => true | .u32, .u32 => true | .u64, .u64 => true
  | _, _ => false
theorem ikEq_eq {a b : IntKind} (h : ikEq a b = true) : a = b := by cases a <;> cases b <;> first | rfl | cases h

def Ty.eqd : (a b : Ty) → Option (PLift (a = b))
  | .int j, .int k => if h : ikEq j k = true then some ⟨by rw [ikEq_eq h]⟩ else none
  | .bool, .bool => some ⟨rfl⟩
  | .str, .str => some ⟨rfl⟩
  | .slice e t, .slice e' t' =>
    if h : Nat.beq e e' = true then
      match Ty.eqd t t' with
      | some ⟨h'⟩ => some ⟨by rw [Nat.eq_of_beq_eq_true h, h']⟩
      | none => none
    else none
  | .st n, .st m => if h : Nat.beq n m = true then some ⟨by rw [Nat.eq_of_beq_eq_true h]⟩ else none
  | .arr k n, .arr k' n' => if h : (ikEq k k' && Nat.beq n n') = true then some ⟨by rw [Bool.and_eq_true] at h; rw [ikEq_eq h.1, Nat.eq_of_beq_eq_true h.2]⟩ else none
  | .rsl e t, .rsl e' t' =>
    if h : Nat.beq e e' = true then
      match Ty.eqd t t' with
      | some ⟨h'⟩ => some ⟨by rw [Nat.eq_of_beq_eq_true h, h']⟩
      | none => none
    else none
  | _, _ => none

structure Env where
  S : Nat → Type
  fl : Nat → List Ty
  opn : (n : Nat) → S n → HT S (fl n)
  shut : (n : Nat) → HT S (fl n) → S n
  opn_shut : ∀ n h, opn n (shut n h) = h
  pos : ∀ n, 0 < (fl n).length
  dz : (n : Nat) → S n

variable {E : Env}

abbrev D (E : Env) (t : Ty) : Type := t.D E.S
def castL {E : Env} {a b : Ty} (h : a = b) (xs : List (D E a)) : List (D E b) := h ▸ xs

/-- Cells that an element of the type takes. -/
def tsz (E : Env) : Ty → Nat
  | .st n => (E.fl n).length
  | _ => 1
theorem tsz_pos (E : Env) : ∀ t : Ty, 0 < tsz E t
  | .st n => E.pos n
  | .int _ => Nat.one_pos
  | .bool => Nat.one_pos
  | .str => Nat.one_pos
  | .slice _ _ => Nat.one_pos
  | .arr _ _ => Nat.one_pos
  | .rsl _ _ => Nat.one_pos
  | .pbx _ _ => Nat.one_pos

/-! ### Abstract values -/
/-- What one cell holds. -/
inductive At (E : Env) where
  | int (k : IntKind) (n : Int)
  | bool (b : Bool)
  | str (s : ByteArray)
  | ro (e : Nat) (t : Ty) (xs : List (Ty.D E.S t))
  | own (id : Nat)
  | sub (id off len : Nat)
  | ptr (id off : Nat)
  | eptr (id i off : Nat)
  | nils
  | nilp
  | dead
  | undef
  /-- A truth of which only this is known: where it is true so is p, where it is false so is q. -/
  | unk (p q : Bool)
  /-- The slice at a cell of an element of a row that owns its elements' rows. -/
  | inn (id hid i c : Nat)
  /-- A map. -/
  | mp (id : Nat)

/-- A component: one cell, a struct's cells, an array of simple elements. -/
inductive Cv (E : Env) where
  | at (x : At E)
  | agg (xs : List (At E))
  | arr (k : IntKind) (n : Nat) (xs : List Int)

inductive AV (E : Env) where
  | c (v : Cv E)
  | rp (cells : List (At E))
  | tup (vs : List (Cv E))
  | clo (f : FuncId) (caps : List (Cv E))

inductive Blk (E : Env) where
  | box (t : Nat) (cells : List (At E))
  | arr (t : Nat) (k : IntKind) (n : Nat) (xs : List Int)
  | row (e : Nat) (t : Ty) (xs : List (Ty.D E.S t)) (frozen : Bool)
  | gone
  /-- A row that owns its elements' rows; the number names what its elements' slices are. -/
  | drow (e : Nat) (t : Ty) (xs : List (Ty.D E.S t)) (hid : Nat)
  | hdr
  /-- A box that is only read. -/
  | rbx (cells : List (At E))
  /-- A deep row of structs, but for what the slice at cell c of element i leads to. -/
  | hole (e n : Nat) (xs : List (E.S n)) (hid i c : Nat)
  /-- A map by whole numbers. -/
  | mp (k : IntKind) (n : Nat) (es : List (Int × E.S n))

abbrev AV.a (x : At E) : AV E := .c (.at x)
abbrev AV.int (k : IntKind) (n : Int) : AV E := .c (.at (.int k n))
abbrev AV.bool (b : Bool) : AV E := .c (.at (.bool b))
abbrev AV.str (s : ByteArray) : AV E := .c (.at (.str s))
abbrev AV.dead : AV E := .c (.at .dead)

/-! ### A reader of the heap -/
inductive RM (E : Env) (α : Type) : Type 1 where
  | pure (a : α)
  | fail
  | rd (id : Nat) (k : Blk E → RM E α)
  | chk (b : Bool) (k : RM E α)
  | call {β : Type} (m : Option β) (k : β → RM E α)

namespace RM
def bind {α β : Type} : RM E α → (α → RM E β) → RM E β
  | .pure a, f => f a
  | .fail, _ => .fail
  | .rd id k, f => .rd id fun b => bind (k b) f
  | .chk b k, f => .chk b (bind k f)
  | .call m k, f => .call m fun y => bind (k y) f

def run {α R : Type} (H : Nat → Option (Blk E)) : RM E α → List Nat → (α → List Nat → Option R) → Option R
  | .pure a, l, K => K a l
  | .fail, _, _ => none
  | .rd id k, l, K => match H id with
    | some b => run H (k b) (id :: l) K
    | none => none
  | .chk b k, l, K => bif b then run H k l K else none
  | .call m k, l, K => match m with
    | some y => run H (k y) l K
    | none => none

/-- The reader ends with that answer, having read those blocks. -/
def Out {α : Type} (H : Nat → Option (Blk E)) : RM E α → List Nat → α → List Nat → Prop
  | .pure a, l, x, l' => x = a ∧ l' = l
  | .fail, _, _, _ => False
  | .rd id k, l, x, l' => ∃ b, H id = some b ∧ Out H (k b) (id :: l) x l'
  | .chk b k, l, x, l' => b = true ∧ Out H k l x l'
  | .call m k, l, x, l' => ∃ y, m = some y ∧ Out H (k y) l x l'
def ofOpt {α : Type} : Option α → RM E α
  | some a => .pure a
  | none => .fail
end RM

/-! ### Lookups -/
def lk {α : Type} : List (Nat × α) → Nat → Option α
  | [], _ => none
  | (j, b) :: r, i => bif Nat.beq j i then some b else lk r i

/-! ### Data out of values and back -/
def toAt (E : Env) : (t : Ty) → Ty.D E.S t → At E
  | .int k, x => .int k x
  | .bool, x => .bool x
  | .str, x => .str x
  | .slice e t, xs => .ro e t xs
  | .st _, _ => .dead
  | .arr _ _, _ => .dead
  | .rsl e t, xs => .ro e t xs
  | .pbx _ _, _ => .dead
def toAts (E : Env) : (ts : List Ty) → HT E.S ts → List (At E)
  | [], _ => []
  | t :: ts, h => toAt E t h.1 :: toAts E ts h.2
def toCv (E : Env) : (t : Ty) → Ty.D E.S t → Cv E
  | .st n, x => .agg (toAts E (E.fl n) (E.opn n x))
  | .int k, x => .at (.int k x)
  | .bool, x => .at (.bool x)
  | .str, x => .at (.str x)
  | .slice e t, xs => .at (.ro e t xs)
  | .arr k n, xs => .arr k n xs
  | .rsl e t, xs => .at (.ro e t xs)
  | .pbx _ _, _ => .at .dead
def Cv.cells : Cv E → List (At E)
  | .at x => [x]
  | .agg xs => xs
  | .arr k _ xs => xs.map (.int k)

def castR (E : Env) (e : Nat) (t : Ty) (e' : Nat) (t' : Ty) (xs : List (Ty.D E.S t')) : RM E (List (Ty.D E.S t)) :=
  bif Nat.beq e e' then
    match Ty.eqd t' t with
    | some ⟨h⟩ => .pure (h ▸ xs)
    | none => .fail
  else .fail

/-- The slice at a cell of an element. -/
def innR (E : Env) (e : Nat) (t : Ty) (i c : Nat) : (t' : Ty) → List (Ty.D E.S t') → RM E (List (Ty.D E.S t))
  | .st n, xs => .chk (decide (i < xs.length)) (match (toAts E (E.fl n) (E.opn n (xs.getD i (E.dz n))))[c]? with
    | some (.ro e' t' ys) => castR E e t e' t' ys
    | _ => .fail)
  | _, _ => .fail
def ofAt (E : Env) : (t : Ty) → At E → RM E (Ty.D E.S t)
  | .int k, .int k' n => bif ikEq k k' then .pure n else .fail
  | .bool, .bool b => .pure b
  | .str, .str s => .pure s
  | .rsl e t, .ro e' t' xs => castR E e t e' t' xs
  | .rsl _ _, .nils => .pure []
  | .slice e t, .ro e' t' xs => castR E e t e' t' xs
  | .slice e t, .own id => .rd id fun
    | .row e' t' xs _ => castR E e t e' t' xs
    | .drow e' t' xs _ => castR E e t e' t' xs
    | _ => .fail
  | .slice e t, .inn id hid i c => .rd id fun
    | .drow _ t' xs hid' => bif Nat.beq hid hid' then innR E e t i c t' xs else .fail
    | _ => .fail
  | .slice e t, .sub id off len => .rd id fun
    | .row e' t' xs _ => .chk (decide (off + len ≤ xs.length)) (castR E e t e' t' ((xs.drop off).take len))
    | _ => .fail
  | .slice _ _, .nils => .pure []
  | _, _ => .fail
def ofAts (E : Env) : (ts : List Ty) → List (At E) → RM E (HT E.S ts)
  | [], [] => .pure ()
  | t :: ts, x :: xs => (ofAt E t x).bind fun d => (ofAts E ts xs).bind fun r => .pure (d, r)
  | _, _ => .fail
def ofCv (E : Env) : (t : Ty) → Cv E → RM E (Ty.D E.S t)
  | .st n, .agg xs => (ofAts E (E.fl n) xs).bind fun h => .pure (E.shut n h)
  | .int k, .at x => ofAt E (.int k) x
  | .bool, .at x => ofAt E .bool x
  | .str, .at x => ofAt E .str x
  | .slice e t, .at x => ofAt E (.slice e t) x
  | .rsl e t, .at x => ofAt E (.rsl e t) x
  | .arr k n, .arr k' n' xs => bif ikEq k k' && Nat.beq n n' then .pure xs else .fail
  | .pbx b n, .at (.ptr id 0) => .rd id fun
    | .box t cells => bif Nat.beq t b then (ofAts E (E.fl n) cells).bind fun h => .pure (E.shut n h) else .fail
    | _ => .fail
  | _, _ => .fail

def atOfVal : Value → Option (At E)
  | .int k n => some (.int k n)
  | .bool b => some (.bool b)
  | .string s => some (.str s)
  | .slice none 0 0 => some .nils
  | .pointer none => some .nilp
  | _ => none
def atsOfVals : List Value → Option (List (At E))
  | [] => some []
  | v :: vs => match atOfVal v, atsOfVals vs with
    | some x, some xs => some (x :: xs)
    | _, _ => none
def cvOfVal : Value → Option (Cv E)
  | .agg cs => (atsOfVals cs.toList).map .agg
  | v => (atOfVal v).map .at

/-- A datum for a place that is not there. -/
def dz (E : Env) : (t : Ty) → Ty.D E.S t
  | .int _ => (0 : Int)
  | .bool => false
  | .str => ByteArray.empty
  | .slice _ _ => []
  | .st n => E.dz n
  | .arr _ n => List.replicate n (0 : Int)
  | .rsl _ _ => []
  | .pbx _ n => E.dz n
def el (E : Env) (t : Ty) (xs : List (Ty.D E.S t)) (i : Nat) : Ty.D E.S t := xs.getD i (dz E t)

/-! ### Plain words -/
def sb (s : ByteArray) (i : Int) : Int := ((s.data.toList.getD i.toNat 0).toNat : Int)
def bytesOf (s : ByteArray) : List Int := s.data.toList.map fun b => (b.toNat : Int)
def strOf (xs : List Int) : ByteArray := ⟨(xs.map fun n => UInt8.ofNat n.toNat).toArray⟩
def ibit (op : BinOp) (k : IntKind) (x y : Int) : Int :=
  let a := BitVec.ofInt k.bits x
  let b := BitVec.ofInt k.bits y
  match op with
  | .and => k.wrap (a &&& b).toNat
  | .or => k.wrap (a ||| b).toNat
  | .xor => k.wrap (a ^^^ b).toNat
  | .andNot => k.wrap (a &&& ~~~b).toNat
  | _ => 0
def room (n b : Nat) : Bool := decide (n * b ≤ 140737488355328)
def slt (x y : ByteArray) : Bool := Op.bytesLess x.toList y.toList
def seq (x y : ByteArray) : Bool := x.toList == y.toList

/-! ### Types of the program -/
structure Tb where
  /-- New rows own their elements' rows. -/
  deep : Bool
  und : TypeId → Option TypeDesc
  size : TypeId → Option Nat
  bytes : TypeId → Option Nat
  zero : TypeId → Option Value
  /-- A struct type that may be compared cell by cell. -/
  eqt : TypeId → Bool
structure Tb.OK (T : Tb) (P : Program) : Prop where
  und : ∀ t d, T.und t = some d → P.underlying t = some d
  size : ∀ t n, T.size t = some n → (P.info? t).map (·.size) = some n
  bytes : ∀ t n, T.bytes t = some n → (P.info? t).map (·.bytes) = some n
  zero : ∀ t v, T.zero t = some v → (P.info? t).bind (·.zero) = some v
  eqt : ∀ t, T.eqt t = true → P.stoodInHeld t = false ∧ P.eqGuardType P.depth t = false
/-- The type of data; 'd' bounds slices in slices. -/
def Tb.ty (T : Tb) : (d : Nat) → TypeId → Option Ty
  | 0, _ => none
  | d + 1, t => match T.und t with
    | some (.int k) => some (.int k)
    | some .bool => some .bool
    | some .string => some .str
    | some (.slice e) => (T.ty d e).map (.slice e)
    | some (.struct _) => some (.st t)
    | _ => none
/-- A type that an element may have. -/
def Ty.elemB : Ty → Bool
  | .arr _ _ => false
  | .pbx _ _ => false
  | _ => true
/-- A type without slices in its elements. -/
def Ty.flat1 (E : Env) : Ty → Bool
  | .st n => (E.fl n).all fun
    | .slice _ _ => false
    | .rsl _ _ => false
    | _ => true
  | .slice _ _ => false
  | .rsl _ _ => false
  | _ => true
def Tb.agg (T : Tb) (t : TypeId) : Option Bool := match T.und t with
  | some (.struct _) => some true
  | some (.array _ _) => some true
  | some _ => some false
  | none => none
/-- A slice type's element type, its data's type. -/
def Tb.elem (T : Tb) (t : TypeId) : Option (TypeId × Ty) := match T.und t with
  | some (.slice e) => (T.ty 3 e).map fun ty => (e, ty)
  | _ => none
def isZ (k : IntKind) : Value → Bool
  | .int k' n => ikEq k k' && decide (n = 0)
  | _ => false
def Tb.zeroCv (T : Tb) (E : Env) (t : TypeId) : Option (Cv E) := match T.und t with
  | some (.array n e) => match T.ty 1 e, T.zero t with
    | some (.int k), some (.agg cs) => bif cs.toList.all (isZ k) && Nat.beq cs.toList.length n then some (.arr k n (List.replicate n (0 : Int))) else none
    | _, _ => none
  | _ => match T.zero t with
    | some v => cvOfVal v
    | none => none
/-! ### Maps by whole numbers -/
def mpIdx {α : Type} (n : Int) : List (Int × α) → Option Nat
  | [] => none
  | e :: r => if n = e.1 then some 0 else (mpIdx n r).map (· + 1)
def mpGet {α : Type} (n : Int) (es : List (Int × α)) : Option α := (mpIdx n es).bind fun j => es[j]?.map (·.2)
def mpSet {α : Type} (n : Int) (x : α) (es : List (Int × α)) : List (Int × α) := match mpIdx n es with
  | some j => es.set j (n, x)
  | none => es ++ [(n, x)]
end Mir
