/- The short form of Go's operations (types resolved), what each tells, and the compiling of an operation. -/
import Derived.Test.YtgoifophjcbpaaaBbA
import Derived.Laws.Sem
import Derived.Laws.Entries
import Derived.Laws.StructEq
namespace Go.Bb
set_option linter.unusedSimpArgs false
set_option linter.unusedVariables false

inductive Opd where
  | t (i : Nat)
  | c (v : Value)
  | f (n : Nat)

inductive EqK where
  | bool | ptr | slice | map | func

inductive KeyT where
  | int | str | agg (ks : List (Option IntKind))     -- of each cell: an integer of that kind, or a text

inductive Prim where
  | add64 | sub64

inductive AOp where
  | mv (x : Opd)
  | num (n : Nat)
  | pick (c a b : Opd)
  | load (k : Option Nat) (x : Opd)
  | nilc (x : Opd)
  | bin (op : BinOp) (x y : Opd)
  | eqv (k : EqK) (ne : Bool) (x y : Opd)
  | eqa (ks : List (Option IntKind)) (ne : Bool) (x y : Opd)
  | un (op : UnOp) (x : Opd)
  | conv (k : IntKind) (x : Opd)
  | strOf (x : Opd)
  | strId (x : Opd)
  | faddr (off : Nat) (x : Opd)
  | field (k : Option Nat) (off : Nat) (x : Opd)
  | iaddrA (n size : Nat) (x i : Opd)
  | iaddrS (size : Nat) (x i : Opd)
  | idxA (n size : Nat) (k : Option Nat) (x i : Opd)
  | idxS (x i : Opd)
  | ext (x : Opd) (i : Nat)
  | lenS (x : Opd)
  | lenStr (x : Opd)
  | capS (x : Opd)
  | mn (x y : Opd)
  | mx (x y : Opd)
  | slStr (x : Opd) (lo hi : Option Opd)
  | slSl (size : Nat) (x : Opd) (lo hi m : Option Opd)
  | slArr (n size : Nat) (x : Opd) (lo hi m : Option Opd)
  | arrOf (n : Nat) (x : Opd)
  | fn (n : Nat) (first captured : List Opd)
  | build (z : List Value) (parts : List (Nat × Nat × Opd))
  | prim (p : Prim) (xs : List Opd)
  | lookup (kt : KeyT) (z : Value) (ok : Bool) (m k : Opd)
  | lenM (m : Opd)
  -- new blocks
  | alloc (z : List Value)
  | box (x : Opd)
  | bslice (n size : Nat) (z : List Value) (parts : List (Nat × Nat × Opd))
  | mslice (bytes : Nat) (z : List Value) (l c : Opd)
  | mmap
  -- what writes
  | store (size : Nat) (a x : Opd)
  | call (n : Nat) (args : List Opd)
  | callv (f : Opd) (args : List Opd)
  | append (size bytes : Nat) (s x : Opd)
  | appendZ (size bytes : Nat) (z : List Value) (s n : Opd)
  | copy (size : Nat) (d s : Opd)
  | mupd (kt : KeyT) (m k v : Opd)
  | mdel (kt : KeyT) (m k : Opd)
  | bytesOf (x : Opd)
  | mark (x : Opd)
  | bad

/-- What the temporaries hold, as far as it is known. -/
abbrev T := Nat → Option Value
def tl : List (Nat × Value) → T
  | [] => fun _ => none
  | (j, v) :: r => fun i => if i = j then some v else tl r i
def tput (t : T) (d : Option Nat) (v : Value) : T :=
  match d with
  | none => t
  | some d => fun i => if i = d then some v else t i
def tkeep (ks : List Nat) (t : T) : T := tl (ks.filterMap fun k => (t k).map fun v => (k, v))

def oev (fid : Nat → Option FuncId) (t : T) : Opd → Option Value
  | .t i => t i
  | .c v => some v
  | .f n => (fid n).map fun f => .func (.func f) #[] #[]

def allV (ρ : Opd → Option Value) : List Opd → Option (List Value)
  | [] => some []
  | x :: xs =>
    match ρ x, allV ρ xs with
    | some v, some vs => some (v :: vs)
    | _, _ => none

/-! ### what the operations tell -/
def binV : BinOp → Value → Value → Option Value
  | .shl, .int k a, .int _ b => if b < 0 then none else some (.int k (k.wrap (a * 2 ^ (min b.toNat k.bits))))
  | .shr, .int k a, .int _ b => if b < 0 then none else some (.int k (a.fdiv (2 ^ (min b.toNat k.bits))))
  | .add, .int k a, .int k' b => if k = k' then some (.int k (k.wrap (a + b))) else none
  | .sub, .int k a, .int k' b => if k = k' then some (.int k (k.wrap (a - b))) else none
  | .mul, .int k a, .int k' b => if k = k' then some (.int k (k.wrap (a * b))) else none
  | .quo, .int k a, .int k' b => if k = k' then if b = 0 then none else some (.int k (k.wrap (a.tdiv b))) else none
  | .rem, .int k a, .int k' b => if k = k' then if b = 0 then none else some (.int k (a.tmod b)) else none
  | .and, .int k a, .int k' b => if k = k' then some (.int k (k.wrap (BitVec.ofInt k.bits a &&& BitVec.ofInt k.bits b).toNat)) else none
  | .or, .int k a, .int k' b => if k = k' then some (.int k (k.wrap (BitVec.ofInt k.bits a ||| BitVec.ofInt k.bits b).toNat)) else none
  | .xor, .int k a, .int k' b => if k = k' then some (.int k (k.wrap (BitVec.ofInt k.bits a ^^^ BitVec.ofInt k.bits b).toNat)) else none
  | .andNot, .int k a, .int k' b => if k = k' then some (.int k (k.wrap (BitVec.ofInt k.bits a &&& ~~~ BitVec.ofInt k.bits b).toNat)) else none
  | .eql, .int k a, .int k' b => if k = k' then some (.bool (a == b)) else none
  | .neq, .int k a, .int k' b => if k = k' then some (.bool (a != b)) else none
  | .lss, .int k a, .int k' b => if k = k' then some (.bool (decide (a < b))) else none
  | .leq, .int k a, .int k' b => if k = k' then some (.bool (decide (a ≤ b))) else none
  | .gtr, .int k a, .int k' b => if k = k' then some (.bool (decide (a > b))) else none
  | .geq, .int k a, .int k' b => if k = k' then some (.bool (decide (a ≥ b))) else none
  | .eql, .string a, .string b => some (.bool (a.toList == b.toList))
  | .neq, .string a, .string b => some (.bool (!(a.toList == b.toList)))
  | .lss, .string a, .string b => some (.bool (Op.bytesLess a.toList b.toList))
  | .leq, .string a, .string b => some (.bool (Op.bytesLess a.toList b.toList || a.toList == b.toList))
  | .gtr, .string a, .string b => some (.bool (!(Op.bytesLess a.toList b.toList || a.toList == b.toList)))
  | .geq, .string a, .string b => some (.bool (!(Op.bytesLess a.toList b.toList)))
  | .add, .string a, .string b => if a.size + b.size ≤ 9223372036854775807 then some (.string (a ++ b)) else none
  | _, _, _ => none

def eqV : EqK → Value → Value → Option Bool
  | .bool, .bool a, .bool b => some (a == b)
  | .ptr, .pointer none, .pointer b => some b.isNone
  | .ptr, .pointer (some _), .pointer none => some false
  | .slice, .slice none _ _, .slice b _ _ => some b.isNone
  | .slice, .slice (some _) _ _, .slice none _ _ => some false
  | .map, .map none, .map b => some b.isNone
  | .map, .map (some _), .map none => some false
  | .func, .nilFunc, .nilFunc => some true
  | .func, .nilFunc, .func _ _ _ => some false
  | .func, .func _ _ _, .nilFunc => some false
  | _, _, _ => none

/-- A cell of the kind that is told. -/
def leafOk : Option IntKind → Value → Bool
  | some k, .int k' _ => decide (k = k')
  | none, .string _ => true
  | _, _ => false

def leavesOk : List (Option IntKind) → List Value → Bool
  | [], [] => true
  | k :: ks, v :: vs => leafOk k v && leavesOk ks vs
  | _, _ => false

def leafEq : Value → Value → Bool
  | .int _ a, .int _ b => a == b
  | .string a, .string b => a.toList == b.toList
  | _, _ => false

def leavesEq : List Value → List Value → Bool
  | [], [] => true
  | a :: as, b :: bs => leafEq a b && leavesEq as bs
  | _, _ => false

def unV : UnOp → Value → Option Value
  | .neg, .int k n => some (.int k (k.wrap (0 - n)))
  | .xor, .int k n => some (.int k (k.wrap (BitVec.ofInt k.bits (if k.signed then -1 else k.max) ^^^ BitVec.ofInt k.bits n).toNat))
  | .not, .bool b => some (.bool !b)
  | _, _ => none

def fillL (cells : List Value) : List (Nat × Nat × Value) → Option (List Value)
  | [] => some cells
  | (off, size, v) :: r => if v.cells.size = size ∧ off + size ≤ cells.length then fillL (cells.take off ++ v.cells.toList ++ cells.drop (off + size)) r else none

def allP (ρ : Opd → Option Value) : List (Nat × Nat × Opd) → Option (List (Nat × Nat × Value))
  | [] => some []
  | (a, b, x) :: xs =>
    match ρ x, allP ρ xs with
    | some v, some vs => some ((a, b, v) :: vs)
    | _, _ => none

def bytesV : List Value → Option (List UInt8)
  | [] => some []
  | .int .u8 n :: r => (bytesV r).map (UInt8.ofNat n.toNat :: ·)
  | _ => none

/-- A bound of a slice expression, between two. -/
def bndV (d : Nat) (most : Nat) : Option (Option Value) → Option Nat
  | none => some d
  | some (some (.int _ i)) => if 0 ≤ i ∧ i ≤ most then some i.toNat else none
  | some _ => none

def oOpt (ρ : Opd → Option Value) : Option Opd → Option (Option Value)
  | none => none
  | some x => some (ρ x)

/-- low, high, max of a slice expression. -/
def bnds (len cap : Nat) (lo hi m : Option (Option Value)) : Option (Nat × Nat × Nat) :=
  match bndV cap cap m with
  | none => none
  | some m' =>
    match (if m.isSome && hi.isNone then none else bndV len m' hi) with
    | none => none
    | some h =>
      match bndV 0 h lo with
      | none => none
      | some l => some (l, h, m')

def primV : Prim → List Value → Option Value
  | .add64, [.int _ x, .int _ y, .int _ c] => if c = 0 ∨ c = 1 then some (.tuple #[.int .u64 (((x.toNat + y.toNat + c.toNat) % 18446744073709551616 : Nat) : Int), .int .u64 (((x.toNat + y.toNat + c.toNat) / 18446744073709551616 : Nat) : Int)]) else none
  | .sub64, [.int _ x, .int _ y, .int _ b] => if b = 0 ∨ b = 1 then some (.tuple #[.int .u64 (((x.toNat + 18446744073709551616 - y.toNat - b.toNat) % 18446744073709551616 : Nat) : Int), .int .u64 (((if x.toNat < y.toNat + b.toNat then 1 else 0) : Nat) : Int)]) else none
  | _, _ => none

def keyV : KeyT → Value → Value → Option Bool
  | .int, .int k a, .int k' b => if k = k' then some (a == b) else none
  | .str, .string a, .string b => some (a.toList == b.toList)
  | .agg ks, .agg a, .agg b => if leavesOk ks a.toList && leavesOk ks b.toList then some (leavesEq a.toList b.toList) else none
  | _, _, _ => none

/-- A key that may be one. -/
def keyFit (kt : KeyT) (k : Value) : Option Unit :=
  match kt, k with
  | .agg ks, .agg a => if leavesOk ks a.toList = true then some () else none
  | .agg _, _ => none
  | _, _ => some ()

def findV (kt : KeyT) (k : Value) : List MapEntry → Nat → Option (Option (Nat × Value))
  | [], _ => some none
  | e :: es, i =>
    match keyV kt k e.key with
    | some true => some (some (i, e.val))
    | some false => findV kt k es (i + 1)
    | none => none

def mapAt (h : Heap) (r : Nat) : Option (Array MapEntry × Nat) :=
  match h r with
  | some (.obj (.map es c)) => some (es, c)
  | some (.ro (.map es c)) => some (es, c)
  | _ => none

def readK (h : Heap) (a : Addr) : Option Nat → Option Value
  | none => hcell h a
  | some n => (hcells h a n).map fun l => .agg l.toArray

def partK (cs : List Value) (off : Nat) : Option Nat → Option Value
  | none => cs[off]?
  | some n => some (.agg ((cs.drop off).take n).toArray)

/-- What an operation that changes nothing tells. -/
def pureV (fid : Nat → Option FuncId) (ρ : Opd → Option Value) (h : Heap) : AOp → Option Value
  | .mv x => ρ x
  | .num n => some (.int .i64 n)
  | .pick c a b => match ρ c with | some (.bool q) => if q = true then ρ a else ρ b | _ => none
  | .load k x =>
    match ρ x with
    | some (.pointer (some a)) => readK h a k
    | _ => none
  | .nilc x => match ρ x with | some (.pointer (some a)) => some (.pointer (some a)) | some (.func (.func f) a b) => some (.func (.func f) a b) | _ => none
  | .bin op x y => match ρ x, ρ y with | some a, some b => binV op a b | _, _ => none
  | .eqv k ne x y => match ρ x, ρ y with | some a, some b => (eqV k a b).map fun q => .bool (if ne = true then !q else q) | _, _ => none
  | .eqa ks ne x y =>
    match ρ x, ρ y with
    | some (.agg a), some (.agg b) => if (leavesOk ks a.toList && leavesOk ks b.toList) = true then some (.bool (if ne = true then !(leavesEq a.toList b.toList) else leavesEq a.toList b.toList)) else none
    | _, _ => none
  | .un op x => match ρ x with | some a => unV op a | _ => none
  | .conv k x => match ρ x with | some (.int _ n) => some (.int k (k.wrap n)) | _ => none
  | .strOf x =>
    match ρ x with
    | some (.slice none _ _) => some (.string .empty)
    | some (.slice (some a) n _) => match hcells h a n with | some l => (bytesV l).map fun bs => .string ⟨bs.toArray⟩ | none => none
    | _ => none
  | .strId x => match ρ x with | some (.string s) => some (.string s) | _ => none
  | .faddr off x => match ρ x with | some (.pointer (some a)) => if a.spot = none then some (.pointer (some ⟨a.block, a.off + off, none⟩)) else none | _ => none
  | .field k off x =>
    match ρ x with
    | some (.agg cs) => partK cs.toList off k
    | _ => none
  | .iaddrA n size x i =>
    match ρ x, ρ i with
    | some (.pointer (some a)), some (.int _ j) => if a.spot = none ∧ 0 ≤ j ∧ j < n then some (.pointer (some ⟨a.block, a.off + j.toNat * size, none⟩)) else none
    | _, _ => none
  | .iaddrS size x i =>
    match ρ x, ρ i with
    | some (.slice (some a) n _), some (.int _ j) => if a.spot = none ∧ 0 ≤ j ∧ j < n then some (.pointer (some ⟨a.block, a.off + j.toNat * size, none⟩)) else none
    | _, _ => none
  | .idxA n size k x i =>
    match ρ x, ρ i with
    | some (.agg cs), some (.int _ j) =>
      if 0 ≤ j ∧ j < n then partK cs.toList (j.toNat * size) k else none
    | _, _ => none
  | .idxS x i =>
    match ρ x, ρ i with
    | some (.string s), some (.int _ j) => if 0 ≤ j then (s.data.toList[j.toNat]?).map fun b => .int .u8 b.toNat else none
    | _, _ => none
  | .ext x i => match ρ x with | some (.tuple vs) => vs.toList[i]? | _ => none
  | .lenS x => match ρ x with | some (.slice _ n _) => some (.int .i64 n) | _ => none
  | .lenStr x => match ρ x with | some (.string s) => some (.int .i64 s.size) | _ => none
  | .capS x => match ρ x with | some (.slice _ _ n) => some (.int .i64 n) | _ => none
  | .mn x y => match ρ x, ρ y with | some (.int k a), some (.int _ b) => some (.int k (if b < a then b else a)) | _, _ => none
  | .mx x y => match ρ x, ρ y with | some (.int k a), some (.int _ b) => some (.int k (if b > a then b else a)) | _, _ => none
  | .slStr x lo hi =>
    match ρ x with
    | some (.string s) => match bnds s.size s.size (oOpt ρ lo) (oOpt ρ hi) none with | some (l, h, _) => some (.string (s.extract l h)) | none => none
    | _ => none
  | .slSl size x lo hi m =>
    match ρ x with
    | some (.slice a len cap) =>
      match bnds len cap (oOpt ρ lo) (oOpt ρ hi) (oOpt ρ m) with
      | some (l, h, m') => some (.slice (if m' = l then a else a.map (·.add (l * size))) (h - l) (m' - l))
      | none => none
    | _ => none
  | .slArr n size x lo hi m =>
    match ρ x with
    | some (.pointer (some a)) =>
      match bnds n n (oOpt ρ lo) (oOpt ρ hi) (oOpt ρ m) with
      | some (l, h, m') => some (.slice (some (if m' = l then a else a.add (l * size))) (h - l) (m' - l))
      | none => none
    | _ => none
  | .arrOf n x => match ρ x with | some (.slice a len _) => if len < n then none else some (.pointer a) | _ => none
  | .fn n first captured =>
    match fid n, allV ρ first, allV ρ captured with
    | some f, some a, some b => some (.func (.func f) a.toArray b.toArray)
    | _, _, _ => none
  | .build z parts =>
    match allP ρ parts with
    | some ps => (fillL z ps).map fun l => .agg l.toArray
    | none => none
  | .prim p xs => match allV ρ xs with | some vs => primV p vs | none => none
  | .lookup kt z ok m k =>
    match ρ m, ρ k with
    | some (.map none), some kv => (keyFit kt kv).map fun _ => if ok = true then .tuple #[z, .bool false] else z
    | some (.map (some r)), some kv =>
      match mapAt h r with
      | some (es, _) =>
        match keyFit kt kv, findV kt kv es.toList 0 with
        | some _, some (some (_, v)) => some (if ok = true then .tuple #[v, .bool true] else v)
        | some _, some none => some (if ok = true then .tuple #[z, .bool false] else z)
        | _, _ => none
      | none => none
    | _, _ => none
  | .lenM m =>
    match ρ m with
    | some (.map none) => some (.int .i64 0)
    | some (.map (some r)) => (mapAt h r).map fun es => .int .i64 es.1.size
    | _ => none
  | _ => none

/-- What an operation that makes one block makes: the block, and the value by the block's number. -/
def allocV (ρ : Opd → Option Value) : AOp → Option (Blk × (Nat → Value))
  | .alloc z => some (.own 0 z z.length, fun b => .pointer (some ⟨b, 0, none⟩))
  | .box x => match ρ x with | some v => some (.own 0 v.cells.toList v.cells.size, fun b => .pointer (some ⟨b, 0, none⟩)) | none => none
  | .bslice n size z parts =>
    match allP ρ parts with
    | some ps => match fillL (List.flatten (List.replicate n z)) ps with | some l => some (.own 0 l l.length, fun b => .slice (some ⟨b, 0, none⟩) n n) | none => none
    | none => none
  | .mslice bytes z l c =>
    match ρ l, ρ c with
    | some (.int _ l), some (.int _ c) =>
      if 0 ≤ l ∧ l ≤ c ∧ c ≤ 9223372036854775807 ∧ bytes * c ≤ 281474976710656 then some (.own 0 (List.flatten (List.replicate c.toNat z)) (c.toNat * z.length), fun b => .slice (some ⟨b, 0, none⟩) l.toNat c.toNat) else none
    | _, _ => none
  | .mmap => some (.obj (.map #[] 0), fun b => .map (some b))
  | _ => none

/-! ### compiling an operation -/
section
variable (P : Program) (ψ : FuncId → Option Nat)

def conO : Operand → Option Opd
  | .tmp t => some (.t t)
  | .const v => some (.c v)
  | .func f => (ψ f).map .f
  | .global _ => none

def conL : List Operand → Option (List Opd)
  | [] => some []
  | x :: xs =>
    match conO ψ x, conL xs with
    | some y, some ys => some (y :: ys)
    | _, _ => none

def conOpt : Option Operand → Option (Option Opd)
  | none => some none
  | some x => (conO ψ x).map some

def sizeT (t : TypeId) : Option Nat := (P.info? t).map (·.size)
def zeroT (t : TypeId) : Option (List Value) := ((P.info? t).bind (·.zero)).map fun z => z.cells.toList
def aggT (t : TypeId) : Option Bool :=
  match P.underlying t with
  | some (.struct _) | some (.array _ _) => some true
  | some _ => some false
  | none => none
/-- How a value of a type is read: one cell, or so many. -/
def kindT (t : TypeId) : Option (Option Nat) :=
  match aggT P t, sizeT P t with
  | some true, some n => some (some n)
  | some false, some _ => some none
  | _, _ => none

/-- The fields lie one behind the other, without a gap. -/
def packedT : List Field → Nat → Bool
  | [], _ => true
  | f :: r, o => f.offset == o && (match sizeT P f.type with | some n => packedT r (o + n) | none => false)

/-- A type whose cells are integers and texts alone: of each, which. -/
def leavesT : Nat → TypeId → Option (List (Option IntKind))
  | 0, _ => none
  | d + 1, t =>
    match P.underlying t with
    | some (.int k) => some [some k]
    | some .string => some [none]
    | some (.struct fs) =>
      if P.stoodInHeld t || !(packedT P fs.toList 0) then none else
      fs.toList.foldr (fun f acc =>
        match acc, leavesT d f.type, sizeT P f.type with
        | some r, some l, some n => if f.name != "_" && l.length == n then some (l ++ r) else none
        | _, _, _ => none) (some [])
    | some (.array n e) =>
      match leavesT d e, sizeT P e with
      | some l, some m => if l.length == m then some (List.flatten (List.replicate n l)) else none
      | _, _ => none
    | _ => none

def keyT (t : TypeId) : Option KeyT :=
  match P.underlying t with
  | some (.int _) => some .int
  | some .string => some .str
  | some (.struct _) | some (.array _ _) => (leavesT P 6 t).map .agg
  | _ => none

def conParts (places : Nat → Option (Nat × Nat)) : List (Nat × Operand) → Option (List (Nat × Nat × Opd))
  | [] => some []
  | (i, x) :: r =>
    match places i, conO ψ x, conParts places r with
    | some (o, s), some y, some ys => some ((o, s, y) :: ys)
    | _, _, _ => none

def eqOp (ne : Bool) (t : TypeId) (x y : Opd) : Option AOp :=
  match P.underlying t with
  | some (.int _) | some .string => some (.bin (if ne then .neq else .eql) x y)
  | some .bool => some (.eqv .bool ne x y)
  | some (.pointer e) => (match sizeT P e with | some _ => some (.eqv .ptr ne x y) | none => none)
  | some (.slice _) => some (.eqv .slice ne x y)
  | some (.map _ _) => some (.eqv .map ne x y)
  | some (.func ..) => some (.eqv .func ne x y)
  | some (.struct _) | some (.array _ _) => if P.eqGuardType P.depth t then none else (leavesT P 6 t).map fun ks => .eqa ks ne x y
  | _ => none

def primOf (s : String) : Option Prim :=
  if s = "math/bits.Add64" then some .add64 else if s = "math/bits.Sub64" then some .sub64 else none

def callOp (c : Call) : Option AOp :=
  match c.callee with
  | .value (.func f) =>
    match P.funcs[f]? with
    | none => none
    | some fn =>
      if fn.body.isNone then
        match primOf fn.name, conL ψ c.args.toList with
        | some p, some xs => if (Extern.allNextRows.lookup fn.origin).isNone then some (.prim p xs) else none
        | _, _ => none
      else match ψ f, conL ψ c.args.toList with
        | some n, some xs => some (.call n xs)
        | _, _ => none
  | .value x =>
    match conO ψ x, conL ψ c.args.toList with
    | some y, some xs => some (.callv y xs)
    | _, _ => none
  | .invoke _ _ => none
  | .builtin b =>
    match b, conL ψ c.args.toList, c.argTypes.toList with
    | .len, some [x], t :: _ =>
      (match P.underlying t with
      | some .string => some (.lenStr x)
      | some (.array n _) => some (.num n)
      | some (.pointer a) => (match P.underlying a with | some (.array n _) => some (.num n) | _ => none)
      | some (.slice _) => some (.lenS x)
      | some (.map _ _) => some (.lenM x)
      | _ => none)
    | .cap, some [x], t :: _ => (match P.underlying t with | some (.slice _) => some (.capS x) | _ => none)
    | .min, some [x, y], _ => some (.mn x y)
    | .max, some [x, y], _ => some (.mx x y)
    | .append, some [s, x], t :: u :: _ =>
      (match P.underlying t, P.underlying u with
      | some (.slice e), some (.slice _) | some (.slice e), some .string =>
        (match P.info? e, zeroT P e with | some i, some z => if i.size == z.length && 0 < i.size then some (.append i.size i.bytes s x) else none | _, _ => none)
      | some (.slice e), some (.int _) =>
        (match P.info? e, zeroT P e with | some i, some z => if i.size == z.length && 0 < i.size then some (.appendZ i.size i.bytes z s x) else none | _, _ => none)
      | _, _ => none)
    | .copy, some [d, s], t :: _ => (match P.underlying t with | some (.slice e) => (sizeT P e).map fun n => .copy n d s | _ => none)
    | .delete, some [m, k], t :: _ => (match P.underlying t with | some (.map k' _) => (keyT P k').map fun kt => .mdel kt m k | _ => none)
    | _, _, _ => none

def compOp (o : Op) : Option AOp :=
  match o with
  | .move x | .assign x => (conO ψ x).map .mv
  | .pick c a b => match conO ψ c, conO ψ a, conO ψ b with | some c, some a, some b => some (.pick c a b) | _, _, _ => none
  | .load t x => match kindT P t, conO ψ x with | some k, some x => some (.load k x) | _, _ => none
  | .nilCheck x => (conO ψ x).map .nilc
  | .binOp op t x y _ =>
    match conO ψ x, conO ψ y with
    | some x, some y => match op with | .eql => eqOp P false t x y | .neq => eqOp P true t x y | _ => some (.bin op x y)
    | _, _ => none
  | .unOp op _ x => (conO ψ x).map (.un op)
  | .convert s d x =>
    match conO ψ x, P.underlying s, P.underlying d with
    | some x, some (.int _), some (.int k) => some (.conv k x)
    | some x, some .string, some .string => some (.strId x)
    | some x, some (.slice e), some .string => (match P.underlying e with | some (.int .u8) => some (.strOf x) | _ => none)
    | some x, some .string, some (.slice e) => (match P.underlying e with | some (.int .u8) => some (.bytesOf x) | _ => none)
    | some x, some (.slice _), some (.slice e) => (match P.underlying e with | some (.int .u8) => (if s == d then some (.mark x) else none) | _ => none)
    | _, _, _ => none
  | .sliceToArrayPointer t x => match conO ψ x, P.underlying t with | some x, some (.array n _) => some (.arrOf n x) | _, _ => none
  | .makeFunc (.func f) a b => match ψ f, conL ψ a.toList, conL ψ b.toList with | some n, some a, some b => some (.fn n a b) | _, _, _ => none
  | .extract x i => (conO ψ x).map (.ext · i)
  | .fieldAddr s x f =>
    match conO ψ x, P.underlying s with
    | some x, some (.struct fs) => (match fs[f]? with | some f => (match sizeT P f.type with | some (_ + 1) => some (.faddr f.offset x) | _ => none) | none => none)
    | _, _ => none
  | .field t x f =>
    match conO ψ x, P.underlying t with
    | some x, some (.struct fs) => (match fs[f]? with | some f => (kindT P f.type).map fun k => .field k f.offset x | none => none)
    | _, _ => none
  | .indexAddr t x i =>
    match conO ψ x, conO ψ i, P.underlying t with
    | some x, some i, some (.array n e) => (sizeT P e).map fun s => .iaddrA n s x i
    | some x, some i, some (.slice e) => (sizeT P e).map fun s => .iaddrS s x i
    | _, _, _ => none
  | .index t x i =>
    match conO ψ x, conO ψ i, P.underlying t with
    | some x, some i, some (.array n e) => (match sizeT P e, kindT P e with | some s, some k => some (.idxA n s k x i) | _, _ => none)
    | some x, some i, some .string => some (.idxS x i)
    | _, _, _ => none
  | .slice t x lo hi m =>
    match conO ψ x, conOpt ψ lo, conOpt ψ hi, conOpt ψ m, P.underlying t with
    | some x, some lo, some hi, some none, some .string => some (.slStr x lo hi)
    | some x, some lo, some hi, some m, some (.slice e) => (sizeT P e).map fun s => .slSl s x lo hi m
    | some x, some lo, some hi, some m, some (.array n e) => (sizeT P e).map fun s => .slArr n s x lo hi m
    | _, _, _, _, _ => none
  | .build t parts =>
    match P.underlying t, zeroT P t with
    | some (.struct fs), some z =>
      (conParts ψ (fun i => match fs[i]? with | some f => (sizeT P f.type).map fun s => (f.offset, s) | none => none) parts.toList).map fun ps =>
        if fs.toList.all (fun f => (sizeT P f.type).isSome) then .build z ps else .bad
    | some (.array _ e), some z =>
      (match sizeT P e with
      | some s => (conParts ψ (fun i => some (i * s, s)) parts.toList).map fun ps => .build z ps
      | none => none)
    | _, _ => none
  | .lookup t m k ok =>
    match conO ψ m, conO ψ k, P.underlying t with
    | some m, some k, some (.map kt e) => (match keyT P kt, (P.info? e).bind (·.zero) with | some kt, some z => some (.lookup kt z ok m k) | _, _ => none)
    | _, _, _ => none
  | .alloc t => (zeroT P t).map .alloc
  | .box _ x => (conO ψ x).map .box
  | .buildSlice t n parts =>
    match P.underlying t with
    | some (.slice e) =>
      (match P.info? e, zeroT P e with
      | some i, some z =>
        if i.size == z.length && 0 < i.size && n * i.size ≤ 16777216 then (conParts ψ (fun j => some (j * i.size, i.size)) parts.toList).map fun ps => .bslice n i.size z ps else none
      | _, _ => none)
    | _ => none
  | .makeSlice t l c =>
    match conO ψ l, conO ψ c, P.underlying t with
    | some l, some c, some (.slice e) =>
      (match P.info? e, zeroT P e with | some i, some z => if i.size == z.length && 0 < i.size then some (.mslice i.bytes z l c) else none | _, _ => none)
    | _, _, _ => none
  | .makeMap t r => match P.underlying t, r with | some (.map _ _), none => some .mmap | _, _ => none
  | .store t a x => match conO ψ a, conO ψ x, sizeT P t with | some a, some x, some n => some (.store n a x) | _, _, _ => none
  | .mapUpdate t m k v | .insert t m k v =>
    match conO ψ m, conO ψ k, conO ψ v, P.underlying t with
    | some m, some k, some v, some (.map kt _) => (keyT P kt).map fun kt => .mupd kt m k v
    | _, _, _, _ => none
  | .call c => callOp P ψ c
  | _ => none
end

end Go.Bb
