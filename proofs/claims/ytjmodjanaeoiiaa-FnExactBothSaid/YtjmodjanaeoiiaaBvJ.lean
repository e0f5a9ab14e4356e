/- Operations that read and compute: their plain meaning on by-value slots, and that the model's run agrees. Generic: no program. -/
import Derived.Test.YtjmodjanaeoiiaaBvI
import Derived.Laws.Pointers
import Derived.Laws.Rows
namespace Go.Bv
open Go Go.RowKit
set_option linter.unusedSimpArgs false
set_option linter.unusedVariables false

inductive Kd where
  | int (k : IntKind) | bool | str | sl (E : Nat) | st (fs : List Nat) | ptr | no
  deriving DecidableEq, Repr
structure Tab where
  kind : Nat → Kd
  size : Nat → Nat
  bytes : Nat → Nat
  off : Nat → Nat → Nat
  zero : Nat → Option AV

mutual
/-- A zero value's cells. -/
def zcells : AV → List Value
  | .bool b => [.bool b]
  | .int k n => [.int k n]
  | .str s => [.string s]
  | .lst _ _ _ => [.slice none 0 0]
  | .agg xs => zcellss xs
  | _ => []
def zcellss : List AV → List Value
  | [] => []
  | x :: xs => zcells x ++ zcellss xs
end
mutual
/-- A zero value: numbers, flags, texts, empty lists, structs of these. -/
def zplain : AV → Bool
  | .bool _ => true
  | .int _ _ => true
  | .str _ => true
  | .lst true 0 [] => true
  | .agg xs => zplains xs
  | _ => false
def zplains : List AV → Bool
  | [] => true
  | x :: xs => zplain x && zplains xs
end

/-- The table says of the program's types what is so. -/
structure TabOk (P : Program) (Γ : Tab) : Prop where
  size : ∀ T, Γ.kind T ≠ .no → ∃ i, P.info? T = some i ∧ i.size = Γ.size T ∧ i.bytes = Γ.bytes T
  int : ∀ T k, Γ.kind T = .int k → P.underlying T = some (.int k)
  bool : ∀ T, Γ.kind T = .bool → P.underlying T = some .bool
  str : ∀ T, Γ.kind T = .str → P.underlying T = some .string
  sl : ∀ T E, Γ.kind T = .sl E → P.underlying T = some (.slice E)
  st : ∀ T fs, Γ.kind T = .st fs → ∃ F, P.underlying T = some (.struct F) ∧ F.size = fs.length ∧ ∀ f t, fs[f]? = some t → ∃ fd, F[f]? = some fd ∧ fd.type = t ∧ fd.offset = Γ.off T f
  ptr : ∀ T, Γ.kind T = .ptr → ∃ E, P.underlying T = some (.pointer E)
  zero : ∀ T z, Γ.zero T = some z → zplain z = true ∧ ∃ i v, P.info? T = some i ∧ i.zero = some v ∧ v.cells.toList = zcells z ∧ (v.cells.size = i.size)
  follows : P.follows .mixedOrders = true

def fitsA (Γ : Tab) (T : Nat) (y : AV) : Bool :=
  match Γ.kind T, y with
  | .st _, .agg xs => alens xs == Γ.size T
  | .st _, _ => false
  | .no, _ => false
  | _, .agg _ => false
  | _, .tup _ => false
  | _, _ => true
def fieldOk (Γ : Tab) (T f n : Nat) : Bool :=
  match Γ.kind T with
  | .st fs => match fs[f]? with | some t => Γ.kind t != .no && Γ.size t != 0 && Γ.off T f == n | none => false
  | _ => false

def intBin (op : BinOp) (k : IntKind) (a b : Int) : Option AV :=
  match op with
  | .add => some (.int k (k.wrap (a + b)))
  | .sub => some (.int k (k.wrap (a - b)))
  | .mul => some (.int k (k.wrap (a * b)))
  | .quo => if b = 0 then none else some (.int k (k.wrap (a.tdiv b)))
  | .rem => if b = 0 then none else some (.int k (a.tmod b))
  | .and => some (.int k (k.wrap (BitVec.ofInt k.bits a &&& BitVec.ofInt k.bits b).toNat))
  | .xor => some (.int k (k.wrap (BitVec.ofInt k.bits a ^^^ BitVec.ofInt k.bits b).toNat))
  | .eql => some (.bool (a == b))
  | .neq => some (.bool (a != b))
  | .lss => some (.bool (a < b))
  | .leq => some (.bool (a ≤ b))
  | .gtr => some (.bool (a > b))
  | .geq => some (.bool (a ≥ b))
  | _ => none
def strBin (op : BinOp) (a b : ByteArray) : Option AV :=
  match op with
  | .add => if a.size + b.size ≤ 4611686018427387904 then some (.str (a ++ b)) else none
  | .eql => some (.bool (a.toList == b.toList))
  | .neq => some (.bool (!(a.toList == b.toList)))
  | _ => none
def binA (Γ : Tab) (op : BinOp) (T : Nat) (x y : AV) : Option AV :=
  match x, y with
  | .int k a, .int k' b =>
    if op = .shr then (if 0 ≤ b then some (.int k (a.fdiv (2 ^ (min b.toNat k.bits)))) else none)
    else if k = k' then intBin op k a b else none
  | .str a, .str b => strBin op a b
  | .bool a, .bool b => if Γ.kind T = .bool then (match op with | .eql => some (.bool (a == b)) | .neq => some (.bool (!(a == b))) | _ => none) else none
  | _, _ => none
def unA (op : UnOp) (x : AV) : Option AV :=
  match op, x with
  | .not, .bool b => some (.bool (!b))
  | .neg, .int k n => some (.int k (k.wrap (0 - n)))
  | _, _ => none
def convA (Γ : Tab) (d : Nat) (x : AV) : Option AV :=
  match Γ.kind d, x with
  | .int k, .int _ n => some (.int k (k.wrap n))
  | .str, .int _ n => some (.str (Utf8.encode n))
  | .str, .str s => some (.str s)
  | _, _ => none
/-- A bound of a slice expression. -/
def bndA (S : List AV) (x : Option Operand) (dflt top : Nat) : Option Nat :=
  match x with
  | none => some dflt
  | some x => match ard S x with
    | some (.int _ n) => if 0 ≤ n ∧ n ≤ top then some n.toNat else none
    | _ => none
def minA : List AV → Option AV
  | [.int k a, .int _ b] => some (.int k (if b < a then b else a))
  | [.int k a, .int _ b, .int _ c] => some (.int k (if c < (if b < a then b else a) then c else (if b < a then b else a)))
  | _ => none
def maxA : List AV → Option AV
  | [.int k a, .int _ b] => some (.int k (if b > a then b else a))
  | [.int k a, .int _ b, .int _ c] => some (.int k (if c > (if b > a then b else a) then c else (if b > a then b else a)))
  | _ => none
def lenA (S : List AV) (x : AV) : Option AV :=
  match x with
  | .str s => some (.int .i64 s.size)
  | .lst _ _ xs => some (.int .i64 xs.length)
  | .ref _ _ _ n => some (.int .i64 n)
  | _ => none
def ards (S : List AV) : List Operand → Option (List AV)
  | [] => some []
  | x :: xs => match ard S x with | some v => (match ards S xs with | some vs => some (v :: vs) | none => none) | none => none

/-- What a quiet operation yields. -/
def qv (Γ : Tab) (S : List AV) (o : Oper) : Option AV :=
  match o.op with
  | .move x => ard S x
  | .pick c x y => match ard S c with | some (.bool t) => if t then ard S x else ard S y | _ => none
  | .load T x => match ard S x with
    | some (.at r p) => (match aget S r p with | some y => if fitsA Γ T y then some (aview r p y) else none | none => none)
    | some (.ip y) => if fitsA Γ T y then some y else none
    | _ => none
  | .fieldAddr T x f => match ard S x with
    | some (.at r p) => (match aget S r p with | some (.agg xs) => if f < xs.length ∧ fieldOk Γ T f (alens (xs.take f)) = true then some (.at r (p ++ [f])) else none | _ => none)
    | some (.ip (.agg xs)) => (match xs[f]? with | some y => if fieldOk Γ T f (alens (xs.take f)) then some (.ip y) else none | none => none)
    | _ => none
  | .indexAddr T x i => match Γ.kind T, ard S i with
    | .sl E, some (.int _ n) => match ard S x with
      | some (.ref r p lo m) => if 0 ≤ n ∧ n < m then
          (match aget S r (p ++ [lo + n.toNat]) with | some y => if Γ.kind E ≠ .no ∧ alen y = Γ.size E then some (.at r (p ++ [lo + n.toNat])) else none | none => none)
        else none
      | some (.lst false _ xs) => if 0 ≤ n then (match xs[n.toNat]? with | some y => if Γ.kind E ≠ .no ∧ alen y = Γ.size E then some (.ip y) else none | none => none) else none
      | _ => none
    | _, _ => none
  | .field T x f => match ard S x with
    | some (.agg xs) => (match Γ.kind T, xs[f]? with
      | .st fs, some y => (match fs[f]? with | some t => if fieldOk Γ T f (alens (xs.take f)) = true ∧ fitsA Γ t y = true then some y else none | none => none)
      | _, _ => none)
    | _ => none
  | .index T x i => match Γ.kind T, ard S x, ard S i with
    | .str, some (.str s), some (.int _ n) => if 0 ≤ n then (match s[n.toNat]? with | some b => some (.int .u8 b.toNat) | none => none) else none
    | _, _, _ => none
  | .binOp op T x y _ => match ard S x, ard S y with | some a, some b => binA Γ op T a b | _, _ => none
  | .unOp op _ x => match ard S x with | some a => unA op a | none => none
  | .convert s d x => match ard S x with | some a => if Γ.kind s ≠ .no then convA Γ d a else none | none => none
  | .slice T x lo hi none => match Γ.kind T, ard S x with
    | .str, some (.str s) => (match bndA S hi s.size s.size with
      | some h => (match bndA S lo 0 h with | some l => some (.str (s.extract l h)) | none => none)
      | none => none)
    | .sl E, some (.lst false s xs) => if Γ.kind E = .no ∨ xs.all (fun y => alen y == Γ.size E) = false then none else (match bndA S hi xs.length xs.length with
      | some h => (match bndA S lo 0 h with | some l => some (.lst false s ((xs.drop l).take (h - l))) | none => none)
      | none => none)
    | .sl E, some (.ref r p l0 m) => if Γ.kind E = .no then none else (match bndA S hi m m with
      | some h => (match bndA S lo 0 h with
        | some l => (match aget S r p with | some (.lst true _ xs) => if xs.all (fun y => alen y == Γ.size E) then some (.ref r p (l0 + l) (h - l)) else none | _ => none)
        | none => none)
      | none => none)
    | _, _ => none
  | .makeFunc (.func f) first caps => if first.size = 0 then (match ards S caps.toList with | some vs => if vs.all (fun | .agg _ => false | _ => true) then some (.fn f vs) else none | none => none) else none
  | .nilCheck x => match ard S x with
    | some (.at r p) => some (.at r p)
    | some (.ip y) => some (.ip y)
    | some (.fn f vs) => some (.fn f vs)
    | _ => none
  | .call { callee := .builtin b, args, argTypes } => match ards S args.toList with
    | some vs => match b with
      | .len => (match vs, argTypes[0]? with
        | [x], some T => (match Γ.kind T, x with
          | .str, .str s => some (.int .i64 s.size)
          | .sl _, .lst _ _ xs => some (.int .i64 xs.length)
          | .sl _, .ref _ _ _ n => some (.int .i64 n)
          | _, _ => none)
        | _, _ => none)
      | .min => minA vs
      | .max => maxA vs
      | _ => none
    | none => none
  | _ => none
end Go.Bv
