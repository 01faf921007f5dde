/- Reckoning with the short form: what a closed call comes to, block by block, with numbers of its own for the blocks. -/
import Derived.Test.YtgoifophjcbpaaaBbW
namespace Go.Bb
set_option linter.unusedVariables false
set_option linter.unusedSimpArgs false

/-- Values without a block, alike on both sides. -/
def plain : Value → Bool
  | .bool _ | .int .. | .string _ | .pointer none | .slice none _ _ | .map none | .nilFunc | .nilIface | .float .. | .complex .. => true
  | _ => false
def constOk : Value → Bool
  | .agg cs => cs.toList.all plain
  | v => plain v

/-- What a closure may hold. -/
def capOk : Value → Bool
  | .agg _ | .tuple _ | .func .. => false
  | _ => true
def noTup : Value → Bool
  | .tuple _ => false
  | _ => true

/-! ### a tree of blocks -/
inductive VB where
  | cells (es : Nat) (vs : List Value)
  | map (es : List MapEntry) (c : Nat)

inductive Tr where
  | leaf
  | node (v : Option VB) (l r : Tr)

noncomputable def Tr.get (t : Tr) : Nat → Option VB :=
  Tr.rec (motive := fun _ => Nat → Option VB) (fun _ => none) (fun v _ _ l r n => Bool.rec (motive := fun _ => Option VB) (Bool.rec (motive := fun _ => Option VB) (r (n / 2 - 1)) (l (n / 2)) (Nat.beq (n % 2) 1)) v (Nat.beq n 0)) t
noncomputable def Tr.val (t : Tr) : Option VB := Tr.rec (motive := fun _ => Option VB) none (fun v _ _ _ _ => v) t
noncomputable def Tr.left (t : Tr) : Tr := Tr.rec (motive := fun _ => Tr) .leaf (fun _ l _ _ _ => l) t
noncomputable def Tr.right (t : Tr) : Tr := Tr.rec (motive := fun _ => Tr) .leaf (fun _ _ r _ _ => r) t
noncomputable def Tr.set (f : Nat) : Tr → Nat → Option VB → Tr :=
  Nat.rec (motive := fun _ => Tr → Nat → Option VB → Tr) (fun t _ _ => t)
    (fun _ ih t n x => Bool.rec (motive := fun _ => Tr) (Bool.rec (motive := fun _ => Tr) (.node t.val t.left (ih t.right (n / 2 - 1) x)) (.node t.val (ih t.left (n / 2) x) t.right) (Nat.beq (n % 2) 1)) (.node x t.left t.right) (Nat.beq n 0)) f

structure VM where
  tr : Tr
  next : Nat
noncomputable def VM.get (m : VM) (b : Nat) : Option VB := m.tr.get b
noncomputable def VM.set (m : VM) (b : Nat) (x : Option VB) : VM := ⟨m.tr.set 40 b x, m.next⟩
noncomputable def VM.new (m : VM) (x : VB) : VM := ⟨m.tr.set 40 m.next (some x), m.next + 1⟩
/-- A new block, if there are not too many. -/
noncomputable def newE (m : VM) (x : VB) (mk : Nat → Value) : Option (Value × VM) := Bool.rec (motive := fun _ => Option (Value × VM)) none (some (mk m.next, m.new x)) (Nat.ble m.next 1000000000)
def VM.start : VM := ⟨.leaf, 1⟩

/-! #### looking at a value -/
structure SlE where
  a : Option Addr
  n : Nat
  c : Nat
structure FnE where
  f : Fn
  a : Array Value
  b : Array Value
structure IntE where
  k : IntKind
  n : Int
noncomputable def vInt (v : Value) : Option (IntE) := Value.rec (motive_1 := fun _ => Option (IntE)) (motive_2 := fun _ => PUnit) (motive_3 := fun _ => PUnit) (fun _ => none) (fun k n => some ⟨k, n⟩) (fun _ _ => none) (fun _ _ _ => none) (fun _ => none) (fun _ => none) (fun _ _ _ => none) (fun _ => none) (fun _ => none) (fun _ _ _ _ _ => none) none (fun _ _ _ => none) none (fun _ _ => none) (fun _ _ => none) (fun _ _ => ⟨⟩) ⟨⟩ (fun _ _ _ _ => ⟨⟩) v
noncomputable def vBool (v : Value) : Option (Bool) := Value.rec (motive_1 := fun _ => Option (Bool)) (motive_2 := fun _ => PUnit) (motive_3 := fun _ => PUnit) (fun b => some b) (fun _ _ => none) (fun _ _ => none) (fun _ _ _ => none) (fun _ => none) (fun _ => none) (fun _ _ _ => none) (fun _ => none) (fun _ => none) (fun _ _ _ _ _ => none) none (fun _ _ _ => none) none (fun _ _ => none) (fun _ _ => none) (fun _ _ => ⟨⟩) ⟨⟩ (fun _ _ _ _ => ⟨⟩) v
noncomputable def vStr (v : Value) : Option (ByteArray) := Value.rec (motive_1 := fun _ => Option (ByteArray)) (motive_2 := fun _ => PUnit) (motive_3 := fun _ => PUnit) (fun _ => none) (fun _ _ => none) (fun _ _ => none) (fun _ _ _ => none) (fun b => some b) (fun _ => none) (fun _ _ _ => none) (fun _ => none) (fun _ => none) (fun _ _ _ _ _ => none) none (fun _ _ _ => none) none (fun _ _ => none) (fun _ _ => none) (fun _ _ => ⟨⟩) ⟨⟩ (fun _ _ _ _ => ⟨⟩) v
noncomputable def vPtr (v : Value) : Option (Option Addr) := Value.rec (motive_1 := fun _ => Option (Option Addr)) (motive_2 := fun _ => PUnit) (motive_3 := fun _ => PUnit) (fun _ => none) (fun _ _ => none) (fun _ _ => none) (fun _ _ _ => none) (fun _ => none) (fun b => some b) (fun _ _ _ => none) (fun _ => none) (fun _ => none) (fun _ _ _ _ _ => none) none (fun _ _ _ => none) none (fun _ _ => none) (fun _ _ => none) (fun _ _ => ⟨⟩) ⟨⟩ (fun _ _ _ _ => ⟨⟩) v
noncomputable def vSl (v : Value) : Option (SlE) := Value.rec (motive_1 := fun _ => Option (SlE)) (motive_2 := fun _ => PUnit) (motive_3 := fun _ => PUnit) (fun _ => none) (fun _ _ => none) (fun _ _ => none) (fun _ _ _ => none) (fun _ => none) (fun _ => none) (fun a n c => some ⟨a, n, c⟩) (fun _ => none) (fun _ => none) (fun _ _ _ _ _ => none) none (fun _ _ _ => none) none (fun _ _ => none) (fun _ _ => none) (fun _ _ => ⟨⟩) ⟨⟩ (fun _ _ _ _ => ⟨⟩) v
noncomputable def vMap (v : Value) : Option (Option Nat) := Value.rec (motive_1 := fun _ => Option (Option Nat)) (motive_2 := fun _ => PUnit) (motive_3 := fun _ => PUnit) (fun _ => none) (fun _ _ => none) (fun _ _ => none) (fun _ _ _ => none) (fun _ => none) (fun _ => none) (fun _ _ _ => none) (fun b => some b) (fun _ => none) (fun _ _ _ _ _ => none) none (fun _ _ _ => none) none (fun _ _ => none) (fun _ _ => none) (fun _ _ => ⟨⟩) ⟨⟩ (fun _ _ _ _ => ⟨⟩) v
noncomputable def vFn (v : Value) : Option (FnE) := Value.rec (motive_1 := fun _ => Option (FnE)) (motive_2 := fun _ => PUnit) (motive_3 := fun _ => PUnit) (fun _ => none) (fun _ _ => none) (fun _ _ => none) (fun _ _ _ => none) (fun _ => none) (fun _ => none) (fun _ _ _ => none) (fun _ => none) (fun _ => none) (fun f a b _ _ => some ⟨f, a, b⟩) none (fun _ _ _ => none) none (fun _ _ => none) (fun _ _ => none) (fun _ _ => ⟨⟩) ⟨⟩ (fun _ _ _ _ => ⟨⟩) v
noncomputable def vAgg (v : Value) : Option (Array Value) := Value.rec (motive_1 := fun _ => Option (Array Value)) (motive_2 := fun _ => PUnit) (motive_3 := fun _ => PUnit) (fun _ => none) (fun _ _ => none) (fun _ _ => none) (fun _ _ _ => none) (fun _ => none) (fun _ => none) (fun _ _ _ => none) (fun _ => none) (fun _ => none) (fun _ _ _ _ _ => none) none (fun _ _ _ => none) none (fun a _ => some a) (fun _ _ => none) (fun _ _ => ⟨⟩) ⟨⟩ (fun _ _ _ _ => ⟨⟩) v
noncomputable def vTup (v : Value) : Option (Array Value) := Value.rec (motive_1 := fun _ => Option (Array Value)) (motive_2 := fun _ => PUnit) (motive_3 := fun _ => PUnit) (fun _ => none) (fun _ _ => none) (fun _ _ => none) (fun _ _ _ => none) (fun _ => none) (fun _ => none) (fun _ _ _ => none) (fun _ => none) (fun _ => none) (fun _ _ _ _ _ => none) none (fun _ _ _ => none) none (fun _ _ => none) (fun a _ => some a) (fun _ _ => ⟨⟩) ⟨⟩ (fun _ _ _ _ => ⟨⟩) v
/-! ### numbers are reckoned at once -/
def fNat {α : Type} (n : Nat) (K : Nat → α) : α := match n with | 0 => K 0 | k + 1 => K (k + 1)
def fInt {α : Type} (n : Int) (K : Int → α) : α := match n with | .ofNat k => fNat k fun k => K (.ofNat k) | .negSucc k => fNat k fun k => K (.negSucc k)
def mkInt (k : IntKind) (n : Int) : Option Value := fInt n fun n => some (.int k n)
def mkBool (b : Bool) : Option Value := match b with | true => some (.bool true) | false => some (.bool false)
def mkPtr (b o : Nat) : Option Value := fNat o fun o => some (.pointer (some ⟨b, o, none⟩))
/-! ### memory -/
def takeE : List Value → Nat → Option (List Value)
  | _, 0 => some []
  | [], _ + 1 => none
  | v :: r, n + 1 => (takeE r n).map (v :: ·)
/-- One list over another, from a place on. -/
noncomputable def putE (l : List Value) : Nat → List Value → Option (List Value) :=
  List.rec (motive := fun _ => Nat → List Value → Option (List Value)) (fun _ us => List.rec (motive := fun _ => Option (List Value)) (some []) (fun _ _ _ => none) us)
    (fun v r ih i us => List.rec (motive := fun _ => Option (List Value)) (some (v :: r))
      (fun u us' _ => Nat.rec (motive := fun _ => Option (List Value)) (Option.rec (motive := fun _ => Option (List Value)) none (fun z => some (u :: z)) (ih 0 us')) (fun i' _ => Option.rec (motive := fun _ => Option (List Value)) none (fun z => some (v :: z)) (ih i' us)) i) us) l

noncomputable def cellsE (m : VM) (a : Addr) (n : Nat) : Option (List Value) :=
  match a.spot, n with
  | some _, _ => none
  | none, 0 => some []
  | none, n + 1 => match m.get a.block with | some (.cells _ vs) => takeE (vs.drop a.off) (n + 1) | _ => none
noncomputable def readE (m : VM) (a : Addr) : Option Nat → Option Value
  | none => match a.spot with | some _ => none | none => (match m.get a.block with | some (.cells _ vs) => vs[a.off]? | _ => none)
  | some n => (cellsE m a n).map fun l => .agg l.toArray
noncomputable def storeE (m : VM) (a : Addr) (us : List Value) : Option VM :=
  match us with
  | [] => some m
  | _ :: _ =>
    match a.spot with
    | some _ => none
    | none =>
      match m.get a.block with
      | some (.cells es vs) => (putE vs a.off us).map fun vs => m.set a.block (some (.cells es vs))
      | _ => none
noncomputable def esE (m : VM) (b : Nat) : Option Nat := match m.get b with | some (.cells es _) => some es | _ => none
noncomputable def exactE (m : VM) (b : Nat) : Bool := match esE m b with | some 0 => true | _ => false
noncomputable def growE (m : VM) (b size : Nat) : Bool := match esE m b with | some (es + 1) => Nat.beq (es + 1) size | _ => false

def bndsE (len : Nat) (lo hi : Option (Option Value)) : Option (Nat × Nat) :=
  match bndV len len hi with
  | none => none
  | some h => match bndV 0 h lo with | none => none | some l => some (l, h)


/-! #### operations, each by itself -/
abbrev Ev := (Opd → Option Value)
abbrev RV := Option (Value × VM)
def wrapE (k : IntKind) (n : Int) : Int :=
  match n with
  | .negSucc _ => k.wrap n
  | .ofNat n =>
    match k with
    | .u8 => .ofNat (n % 256)
    | .u16 => .ofNat (n % 65536)
    | .u32 => .ofNat (n % 4294967296)
    | .u64 => .ofNat (n % 18446744073709551616)
    | .i64 => bif Nat.blt n 9223372036854775808 then .ofNat n else IntKind.wrap .i64 (.ofNat n)
    | k => k.wrap (.ofNat n)
def bitsE (f : Nat → Nat → Nat) (op : BinOp) (k : IntKind) (a b : Int) : Option Value :=
  match a, b with
  | .ofNat a', .ofNat b' =>
    (match k with
    | .u8 => mkInt .u8 (.ofNat (f (a' % 256) (b' % 256)))
    | .u32 => mkInt .u32 (.ofNat (f (a' % 4294967296) (b' % 4294967296)))
    | .u64 => mkInt .u64 (.ofNat (f (a' % 18446744073709551616) (b' % 18446744073709551616)))
    | k => binV op (.int k a) (.int k b))
  | a, b => binV op (.int k a) (.int k b)
def ltE (a b : Int) : Bool := match a, b with | .ofNat a, .ofNat b => Nat.blt a b | .negSucc _, .ofNat _ => true | .ofNat _, .negSucc _ => false | .negSucc a, .negSucc b => Nat.blt b a
def leE (a b : Int) : Bool := match a, b with | .ofNat a, .ofNat b => Nat.ble a b | .negSucc _, .ofNat _ => true | .ofNat _, .negSucc _ => false | .negSucc a, .negSucc b => Nat.ble b a
def eqE (a b : Int) : Bool := match a, b with | .ofNat a, .ofNat b => Nat.beq a b | .negSucc _, .ofNat _ => false | .ofNat _, .negSucc _ => false | .negSucc a, .negSucc b => Nat.beq a b
noncomputable def kNum (k : IntKind) : Nat := IntKind.rec (motive := fun _ => Nat) 0 1 2 3 4 5 6 7 k
noncomputable def kEq (k k' : IntKind) : Bool := Nat.beq (kNum k) (kNum k')
def iAdd (k : IntKind) (a b : Int) : Option Value := mkInt k (wrapE k (a + b))
def iSub (k : IntKind) (a b : Int) : Option Value := mkInt k (wrapE k (a - b))
def iMul (k : IntKind) (a b : Int) : Option Value := mkInt k (wrapE k (a * b))
def iEq (k : IntKind) (a b : Int) : Option Value := mkBool (eqE a b)
def iNe (k : IntKind) (a b : Int) : Option Value := mkBool (!eqE a b)
def iLt (k : IntKind) (a b : Int) : Option Value := mkBool (ltE a b)
def iLe (k : IntKind) (a b : Int) : Option Value := mkBool (leE a b)
def iGt (k : IntKind) (a b : Int) : Option Value := mkBool (ltE b a)
def iGe (k : IntKind) (a b : Int) : Option Value := mkBool (leE b a)
def iShl (k : IntKind) (a b : Int) : Option Value :=
  match a, b with
  | .ofNat a, .ofNat b => mkInt k (wrapE k (.ofNat (Nat.shiftLeft a (min b k.bits))))
  | a, b => binV .shl (.int k a) (.int .u64 b)
def iShr (k : IntKind) (a b : Int) : Option Value :=
  match a, b with
  | .ofNat a, .ofNat b => mkInt k (.ofNat (Nat.shiftRight a (min b k.bits)))
  | a, b => binV .shr (.int k a) (.int .u64 b)
def iOther (op : BinOp) (k : IntKind) (a b : Int) : Option Value := match binV op (.int k a) (.int k b) with | some (.int k n) => mkInt k n | x => x
structure BoxI where
  f : IntKind → Int → Int → Option Value
  sh : Bool
noncomputable def boxI (op : BinOp) : BoxI := BinOp.rec (motive := fun _ => BoxI) ⟨iAdd, false⟩ ⟨iSub, false⟩ ⟨iMul, false⟩ ⟨iOther .quo, false⟩ ⟨iOther .rem, false⟩ ⟨(bitsE Nat.land .and), false⟩ ⟨(bitsE Nat.lor .or), false⟩ ⟨(bitsE Nat.xor .xor), false⟩ ⟨iShl, true⟩ ⟨iShr, true⟩ ⟨iOther .andNot, false⟩ ⟨iEq, false⟩ ⟨iNe, false⟩ ⟨iLt, false⟩ ⟨iLe, false⟩ ⟨iGt, false⟩ ⟨iGe, false⟩ op
noncomputable def binE (op : BinOp) (x y : Value) : Option Value :=
  match vInt x, vInt y with
  | some ⟨k, a⟩, some ⟨k', b⟩ => (bif (boxI op).sh || kEq k k' then (boxI op).f k a b else none)
  | _, _ => binV op x y

noncomputable def oLoad (k : Option Nat) (x : Opd) (ρ : Ev) (m : VM) : Option Value :=
  match ρ x with
  | some v => (match vPtr v with | some (some a) => readE m a k | _ => none)
  | none => none
noncomputable def oStrOf (x : Opd) (ρ : Ev) (m : VM) : Option Value :=
  match ρ x with
  | some v => (match vSl v with
    | some ⟨none, _, _⟩ => some (.string .empty)
    | some ⟨some a, n, _⟩ => (match cellsE m a n with | some l => (bytesV l).map fun bs => .string ⟨bs.toArray⟩ | none => none)
    | none => none)
  | none => none
noncomputable def oCap (x : Opd) (ρ : Ev) (m : VM) : Option Value :=
  match ρ x with
  | some v => (match vSl v with
    | some ⟨none, _, n⟩ => mkInt .i64 n
    | some ⟨some a, _, n⟩ => bif exactE m a.block then mkInt .i64 n else none
    | none => none)
  | none => none
def mkSl (a : Addr) (n c : Nat) : Option Value := match a with | ⟨b, o, none⟩ => fNat o fun o => fNat n fun n => fNat c fun c => some (.slice (some ⟨b, o, none⟩) n c) | ⟨_, _, some _⟩ => none
def cutE (a : Addr) (size l h m' : Nat) : Option Value := mkSl (bif Nat.beq m' l then a else a.add (l * size)) (h - l) (m' - l)
noncomputable def oSl (size : Nat) (x : Opd) (lo hi mx : Option Opd) (ρ : Ev) (m : VM) : Option Value :=
  match ρ x with
  | some v => (match vSl v with
    | some ⟨none, len, cap⟩ => (match bnds len cap (oOpt ρ lo) (oOpt ρ hi) (oOpt ρ mx) with | some (l, h, m') => some (.slice none (h - l) (m' - l)) | none => none)
    | some ⟨some a, len, cap⟩ =>
      (bif exactE m a.block then
        match bnds len cap (oOpt ρ lo) (oOpt ρ hi) (oOpt ρ mx) with
        | some (l, h, m') => cutE a size l h m'
        | none => none
      else bif mx.isNone && growE m a.block size then
        match bndsE len (oOpt ρ lo) (oOpt ρ hi) with
        | some (l, h) => mkSl (a.add (l * size)) (h - l) 0
        | none => none
      else none)
    | none => none)
  | none => none
noncomputable def oSlArr (n size : Nat) (x : Opd) (lo hi k : Option Opd) (ρ : Ev) (m : VM) : Option Value :=
  match ρ x with
  | some v => (match vPtr v with
    | some (some a) =>
      (bif exactE m a.block then
        match bnds n n (oOpt ρ lo) (oOpt ρ hi) (oOpt ρ k) with
        | some (l, h, m') => cutE a size l h m'
        | none => none
      else none)
    | _ => none)
  | none => none
noncomputable def oArrOf (n : Nat) (x : Opd) (ρ : Ev) (m : VM) : Option Value :=
  match ρ x with
  | some v => (match vSl v with | some ⟨some a, len, _⟩ => bif Nat.ble n len && Nat.blt 0 n then some (.pointer (some a)) else none | _ => none)
  | none => none
def oFn (has : Nat → Bool) (n : Nat) (first captured : List Opd) (ρ : Ev) (m : VM) : Option Value :=
  match allV ρ first, allV ρ captured with
  | some a, some b => bif has n && (a.all capOk && b.all capOk) then some (.func (.func n) a.toArray b.toArray) else none
  | _, _ => none
noncomputable def foundE (z : Value) (ok : Bool) (kt : KeyT) (kv : Value) (es : List MapEntry) : Option Value :=
  match keyFit kt kv, findV kt kv es 0 with
  | some _, some (some (_, v)) => some (if ok = true then .tuple #[v, .bool true] else v)
  | some _, some none => some (if ok = true then .tuple #[z, .bool false] else z)
  | _, _ => none
noncomputable def oLook (kt : KeyT) (z : Value) (ok : Bool) (x k : Opd) (ρ : Ev) (m : VM) : Option Value :=
  match (bif constOk z then ρ x else none), ρ k with
  | some v, some kv => (bif constOk kv then (match vMap v with
    | some none => (keyFit kt kv).map fun _ => if ok = true then .tuple #[z, .bool false] else z
    | some (some r) => (match m.get r with | some (.map es _) => foundE z ok kt kv es | _ => none)
    | none => none) else none)
  | _, _ => none
noncomputable def oLenM (x : Opd) (ρ : Ev) (m : VM) : Option Value :=
  match ρ x with
  | some v => (match vMap v with
    | some none => mkInt .i64 0
    | some (some r) => (match m.get r with | some (.map es _) => mkInt .i64 es.length | _ => none)
    | none => none)
  | none => none
def oMv (x : Opd) (ρ : Ev) (m : VM) : Option Value := ρ x
def oNum (n : Nat) (ρ : Ev) (m : VM) : Option Value := some (.int .i64 n)
noncomputable def oBin (op : BinOp) (x y : Opd) (ρ : Ev) (m : VM) : Option Value := match ρ x, ρ y with | some a, some b => binE op a b | _, _ => none
noncomputable def oNilc (x : Opd) (ρ : Ev) (m : VM) : Option Value :=
  match ρ x with
  | some v => (match vPtr v with
    | some (some _) => some v
    | some none => none
    | none => (match vFn v with | some ⟨.func _, _, _⟩ => some v | _ => none))
  | none => none
noncomputable def oPick (c a b : Opd) (ρ : Ev) (m : VM) : Option Value :=
  match ρ c with
  | some v => (match vBool v with | some true => ρ a | some false => ρ b | none => none)
  | none => none
noncomputable def oConv (k : IntKind) (x : Opd) (ρ : Ev) (m : VM) : Option Value :=
  match ρ x with
  | some v => (match vInt v with | some ⟨_, n⟩ => mkInt k (wrapE k n) | none => none)
  | none => none
noncomputable def oFaddr (off : Nat) (x : Opd) (ρ : Ev) (m : VM) : Option Value :=
  match ρ x with
  | some v => (match vPtr v with | some (some ⟨b, o, none⟩) => mkPtr b (o + off) | _ => none)
  | none => none
def inE (j : Int) (n : Nat) : Option Nat := match j with | .ofNat j => bif Nat.blt j n then some j else none | _ => none
noncomputable def oIaddrA (n size : Nat) (x i : Opd) (ρ : Ev) (m : VM) : Option Value :=
  match ρ x, ρ i with
  | some v, some u => (match vPtr v, vInt u with
    | some (some ⟨b, o, none⟩), some ⟨_, j⟩ => (match inE j n with | some j => mkPtr b (o + j * size) | none => none)
    | _, _ => none)
  | _, _ => none
noncomputable def oIaddrS (size : Nat) (x i : Opd) (ρ : Ev) (m : VM) : Option Value :=
  match ρ x, ρ i with
  | some v, some u => (match vSl v, vInt u with
    | some ⟨some ⟨b, o, none⟩, n, _⟩, some ⟨_, j⟩ => (match inE j n with | some j => mkPtr b (o + j * size) | none => none)
    | _, _ => none)
  | _, _ => none
noncomputable def oExt (x : Opd) (i : Nat) (ρ : Ev) (m : VM) : Option Value :=
  match ρ x with
  | some v => (match vTup v with | some vs => vs.toList[i]? | none => none)
  | none => none
noncomputable def oLenS (x : Opd) (ρ : Ev) (m : VM) : Option Value :=
  match ρ x with
  | some v => (match vSl v with | some ⟨_, n, _⟩ => mkInt .i64 n | none => none)
  | none => none
noncomputable def oField (k : Option Nat) (off : Nat) (x : Opd) (ρ : Ev) (m : VM) : Option Value :=
  match ρ x with
  | some v => (match vAgg v with | some cs => partK cs.toList off k | none => none)
  | none => none
def oRest (op : AOp) (ρ : Ev) (m : VM) : Option Value := pureV (fun _ => none) ρ (fun _ => none) op
def oBuild (z : List Value) (ps : List (Nat × Nat × Opd)) (ρ : Ev) (m : VM) : Option Value := bif z.all plain then (match allP ρ ps with | some ps => (match (bif ps.all (fun p => noTup p.2.2) then fillL z ps else none) with | some l => some (.agg l.toArray) | none => none) | none => none) else none
def oBad (ρ : Ev) (m : VM) : Option Value := none
abbrev AV := Option (VB × (Nat → Value))
def aAlloc (z : List Value) (ρ : Ev) : AV := bif z.all plain then some (.cells 0 z, fun b => .pointer (some ⟨b, 0, none⟩)) else none
def aBox (x : Opd) (ρ : Ev) : AV := match ρ x with | some v => (bif noTup v then some (.cells 0 v.cells.toList, fun b => .pointer (some ⟨b, 0, none⟩)) else none) | none => none
def aBslice (n size : Nat) (z : List Value) (parts : List (Nat × Nat × Opd)) (ρ : Ev) : AV :=
  bif z.all plain then
    match allP ρ parts with
    | some ps => (match (bif ps.all (fun p => noTup p.2.2) then fillL (List.flatten (List.replicate n z)) ps else none) with | some l => some (.cells 0 l, fun b => .slice (some ⟨b, 0, none⟩) n n) | none => none)
    | none => none
  else none
noncomputable def aMslice (bytes : Nat) (z : List Value) (l c : Opd) (ρ : Ev) : AV :=
  bif z.all plain then
    match ρ l, ρ c with
    | some l, some c => (match vInt l, vInt c with
      | some ⟨_, l⟩, some ⟨_, c⟩ => if 0 ≤ l ∧ l ≤ c ∧ c ≤ 9223372036854775807 ∧ bytes * c ≤ 281474976710656 then some (.cells 0 (List.flatten (List.replicate c.toNat z)), fun b => .slice (some ⟨b, 0, none⟩) l.toNat c.toNat) else none
      | _, _ => none)
    | _, _ => none
  else none
def aMmap (ρ : Ev) : AV := some (.map [] 0, fun b => .map (some b))

noncomputable def readXE (m : VM) (size : Nat) : Value → Option (Nat × List Value)
  | .slice none n _ => if n = 0 then some (0, []) else none
  | .slice (some a) n _ => (cellsE m a (n * size)).map fun l => (n, l)
  | .string s => if size = 1 then some (s.size, s.data.toList.map fun b => .int .u8 b.toNat) else none
  | _ => none

noncomputable def appA (size : Nat) (m : VM) (a : Addr) (n c k : Nat) (news : List Value) : RV :=
  match m.get a.block with
  | some (.cells es vs) =>
    match es with
    | 0 =>
      bif Nat.ble (n + k) c then (storeE m (a.add (n * size)) news).map fun m => (.slice (some a) (n + k) c, m)
      else match cellsE m a (n * size) with | some old => newE m (.cells size (old ++ news)) (fun b => .slice (some ⟨b, 0, none⟩) (n + k) 0) | none => none
    | es + 1 =>
      bif Nat.beq (es + 1) size && Nat.ble a.off vs.length then (match cellsE m a (n * size) with | some old => newE (m.set a.block none) (.cells size (old ++ news)) (fun b => .slice (some ⟨b, 0, none⟩) (n + k) 0) | none => none) else none
  | _ => none
noncomputable def appE (size bytes : Nat) (m : VM) (base : Option Addr) (n c k : Nat) (news : List Value) : RV :=
  match base with
  | none =>
    bif Nat.beq k 0 then (bif Nat.ble n c then some (.slice none n c, m) else none)
    else bif Nat.beq n 0 && Nat.beq c 0 && Nat.ble (k * bytes) 140737488355328 && Nat.ble k 9223372036854775807 then newE m (.cells size news) (fun b => .slice (some ⟨b, 0, none⟩) k 0) else none
  | some a =>
    bif Nat.beq k 0 then some (.slice base n c, m)
    else bif Nat.ble ((n + k) * bytes) 140737488355328 && Nat.ble (n + k) 9223372036854775807 then appA size m a n c k news
    else none

abbrev CallE := Nat → List Value → VM → RV
noncomputable def wStore (size : Nat) (a x : Opd) (call : CallE) (ρ : Ev) (m : VM) : RV :=
  match ρ a, ρ x with
  | some (.pointer (some p)), some v => bif Nat.beq v.cells.size size && v.cells.toList.all one then (storeE m p v.cells.toList).map fun m => (undef, m) else none
  | _, _ => none
noncomputable def wCall (n : Nat) (args : List Opd) (call : CallE) (ρ : Ev) (m : VM) : RV := match allV ρ args with | some vs => call n vs m | none => none
noncomputable def wCallv (f : Opd) (args : List Opd) (call : CallE) (ρ : Ev) (m : VM) : RV :=
  match ρ f, allV ρ args with
  | some (.func (.func g) first cap), some vs => call g (first.toList ++ vs ++ cap.toList) m
  | _, _ => none
noncomputable def wAppend (size bytes : Nat) (s x : Opd) (call : CallE) (ρ : Ev) (m : VM) : RV :=
  match ρ s, ρ x with
  | some (.slice base n c), some xv => (match readXE m size xv with | some (k, news) => bif news.all one && Nat.blt 0 size then appE size bytes m base n c k news else none | none => none)
  | _, _ => none
noncomputable def wAppendZ (size bytes : Nat) (z : List Value) (s x : Opd) (call : CallE) (ρ : Ev) (m : VM) : RV :=
  match ρ s, ρ x with
  | some (.slice base n c), some (.int _ k) => bif decide (0 ≤ k ∧ k ≤ 9223372036854775807 ∧ k * bytes ≤ 281474976710656) && (z.all plain && (Nat.beq z.length size && Nat.blt 0 size)) then appE size bytes m base n c k.toNat (List.flatten (List.replicate k.toNat z)) else none
  | _, _ => none
noncomputable def wCopy (size : Nat) (d s : Opd) (call : CallE) (ρ : Ev) (m : VM) : RV :=
  match ρ d, ρ s with
  | some (.slice base n _), some (.slice (some b) k _) =>
    (match cellsE m b (min k n * size) with
    | some l => bif l.all one then (match base with | none => some (.int .i64 (min k n : Nat), m) | some a => (storeE m a l).map fun m => (.int .i64 (min k n : Nat), m)) else none
    | none => none)
  | some (.slice base n _), some (.slice none k _) => if k = 0 then some (.int .i64 0, m) else none
  | some (.slice base n _), some (.string s) =>
    (match base with
    | none => some (.int .i64 (min s.size n : Nat), m)
    | some a => if size = 1 then (storeE m a ((s.data.toList.take (min s.size n)).map fun b => .int .u8 b.toNat)).map fun m => (.int .i64 (min s.size n : Nat), m) else none)
  | _, _ => none
noncomputable def wMupd (kt : KeyT) (x k v : Opd) (call : CallE) (ρ : Ev) (m : VM) : RV :=
  match ρ x, ρ k, ρ v with
  | some (.map (some r)), some kv, some vv =>
    (match (bif constOk kv && noTup vv then m.get r else none) with
    | some (.map es c) =>
      (match keyFit kt kv, findV kt kv es 0 with
      | some _, some (some (i, _)) => some (undef, m.set r (some (.map (es.modify i fun e => { e with key := kv, val := vv }) c)))
      | some _, some none => some (undef, m.set r (some (.map (es ++ [{ key := kv, val := vv, born := c }]) (c + 1))))
      | _, _ => none)
    | _ => none)
  | _, _, _ => none
noncomputable def wMdel (kt : KeyT) (x k : Opd) (call : CallE) (ρ : Ev) (m : VM) : RV :=
  match ρ x, ρ k with
  | some (.map (some r)), some kv =>
    (match (bif constOk kv then m.get r else none) with
    | some (.map es c) =>
      (match keyFit kt kv, findV kt kv es 0 with
      | some _, some (some (i, _)) => some (.tuple #[], m.set r (some (.map (es.eraseIdx i) c)))
      | some _, some none => some (.tuple #[], m.set r (some (.map es c)))
      | _, _ => none)
    | _ => none)
  | _, _ => none
noncomputable def wBytes (x : Opd) (call : CallE) (ρ : Ev) (m : VM) : RV := match ρ x with | some (.string s) => newE m (.cells 1 (s.data.toList.map fun b => .int .u8 b.toNat)) (fun b => .slice (some ⟨b, 0, none⟩) s.size 0) | _ => none
noncomputable def wMark (x : Opd) (call : CallE) (ρ : Ev) (m : VM) : RV := match ρ x with | some (.slice (some a) n c) => (match m.get a.block with | some (.cells _ _) => some (.slice (some a) n c, m) | _ => none) | _ => none
noncomputable def wAlloc (f : Ev → AV) (call : CallE) (ρ : Ev) (m : VM) : RV := match f ρ with | some (vb, mk) => newE m vb mk | none => none
noncomputable def wPure (f : Ev → VM → Option Value) (call : CallE) (ρ : Ev) (m : VM) : RV := match f ρ m with | some v => some (v, m) | none => none
noncomputable def wNone (call : CallE) (ρ : Ev) (m : VM) : RV := none
structure BoxW where
  f : CallE → Ev → VM → RV
noncomputable def boxW (has : Nat → Bool) (op : AOp) : BoxW := AOp.rec (motive := fun _ => BoxW) (fun x0 => ⟨wPure (oMv x0)⟩) (fun x0 => ⟨wPure (oNum x0)⟩) (fun x0 x1 x2 => ⟨wPure (oPick x0 x1 x2)⟩) (fun x0 x1 => ⟨wPure (oLoad x0 x1)⟩) (fun x0 => ⟨wPure (oNilc x0)⟩) (fun x0 x1 x2 => ⟨wPure (oBin x0 x1 x2)⟩) (fun x0 x1 x2 x3 => ⟨wPure (oRest (.eqv x0 x1 x2 x3))⟩) (fun x0 x1 x2 x3 => ⟨wPure (oRest (.eqa x0 x1 x2 x3))⟩) (fun x0 x1 => ⟨wPure (oRest (.un x0 x1))⟩) (fun x0 x1 => ⟨wPure (oConv x0 x1)⟩) (fun x0 => ⟨wPure (oStrOf x0)⟩) (fun x0 => ⟨wPure (oRest (.strId x0))⟩) (fun x0 x1 => ⟨wPure (oFaddr x0 x1)⟩) (fun x0 x1 x2 => ⟨wPure (oField x0 x1 x2)⟩) (fun x0 x1 x2 x3 => ⟨wPure (oIaddrA x0 x1 x2 x3)⟩) (fun x0 x1 x2 => ⟨wPure (oIaddrS x0 x1 x2)⟩) (fun x0 x1 x2 x3 x4 => ⟨wPure (oRest (.idxA x0 x1 x2 x3 x4))⟩) (fun x0 x1 => ⟨wPure (oRest (.idxS x0 x1))⟩) (fun x0 x1 => ⟨wPure (oExt x0 x1)⟩) (fun x0 => ⟨wPure (oLenS x0)⟩) (fun x0 => ⟨wPure (oRest (.lenStr x0))⟩) (fun x0 => ⟨wPure (oCap x0)⟩) (fun x0 x1 => ⟨wPure (oRest (.mn x0 x1))⟩) (fun x0 x1 => ⟨wPure (oRest (.mx x0 x1))⟩) (fun x0 x1 x2 => ⟨wPure (oRest (.slStr x0 x1 x2))⟩) (fun x0 x1 x2 x3 x4 => ⟨wPure (oSl x0 x1 x2 x3 x4)⟩) (fun x0 x1 x2 x3 x4 x5 => ⟨wPure (oSlArr x0 x1 x2 x3 x4 x5)⟩) (fun x0 x1 => ⟨wPure (oArrOf x0 x1)⟩) (fun x0 x1 x2 => ⟨wPure (oFn has x0 x1 x2)⟩) (fun x0 x1 => ⟨wPure (oBuild x0 x1)⟩) (fun x0 x1 => ⟨wPure (oRest (.prim x0 x1))⟩) (fun x0 x1 x2 x3 x4 => ⟨wPure (oLook x0 x1 x2 x3 x4)⟩) (fun x0 => ⟨wPure (oLenM x0)⟩) (fun x0 => ⟨wAlloc (aAlloc x0)⟩) (fun x0 => ⟨wAlloc (aBox x0)⟩) (fun x0 x1 x2 x3 => ⟨wAlloc (aBslice x0 x1 x2 x3)⟩) (fun x0 x1 x2 x3 => ⟨wAlloc (aMslice x0 x1 x2 x3)⟩) ⟨wAlloc aMmap⟩ (fun x0 x1 x2 => ⟨wStore x0 x1 x2⟩) (fun x0 x1 => ⟨wCall x0 x1⟩) (fun x0 x1 => ⟨wCallv x0 x1⟩) (fun x0 x1 x2 x3 => ⟨wAppend x0 x1 x2 x3⟩) (fun x0 x1 x2 x3 x4 => ⟨wAppendZ x0 x1 x2 x3 x4⟩) (fun x0 x1 x2 => ⟨wCopy x0 x1 x2⟩) (fun x0 x1 x2 x3 => ⟨wMupd x0 x1 x2 x3⟩) (fun x0 x1 x2 => ⟨wMdel x0 x1 x2⟩) (fun x0 => ⟨wBytes x0⟩) (fun x0 => ⟨wMark x0⟩) ⟨wNone⟩ op
structure BoxP where
  f : Ev → VM → Option Value
noncomputable def boxP (has : Nat → Bool) (op : AOp) : BoxP := AOp.rec (motive := fun _ => BoxP) (fun x0 => ⟨oMv x0⟩) (fun x0 => ⟨oNum x0⟩) (fun x0 x1 x2 => ⟨oPick x0 x1 x2⟩) (fun x0 x1 => ⟨oLoad x0 x1⟩) (fun x0 => ⟨oNilc x0⟩) (fun x0 x1 x2 => ⟨oBin x0 x1 x2⟩) (fun x0 x1 x2 x3 => ⟨oRest (.eqv x0 x1 x2 x3)⟩) (fun x0 x1 x2 x3 => ⟨oRest (.eqa x0 x1 x2 x3)⟩) (fun x0 x1 => ⟨oRest (.un x0 x1)⟩) (fun x0 x1 => ⟨oConv x0 x1⟩) (fun x0 => ⟨oStrOf x0⟩) (fun x0 => ⟨oRest (.strId x0)⟩) (fun x0 x1 => ⟨oFaddr x0 x1⟩) (fun x0 x1 x2 => ⟨oField x0 x1 x2⟩) (fun x0 x1 x2 x3 => ⟨oIaddrA x0 x1 x2 x3⟩) (fun x0 x1 x2 => ⟨oIaddrS x0 x1 x2⟩) (fun x0 x1 x2 x3 x4 => ⟨oRest (.idxA x0 x1 x2 x3 x4)⟩) (fun x0 x1 => ⟨oRest (.idxS x0 x1)⟩) (fun x0 x1 => ⟨oExt x0 x1⟩) (fun x0 => ⟨oLenS x0⟩) (fun x0 => ⟨oRest (.lenStr x0)⟩) (fun x0 => ⟨oCap x0⟩) (fun x0 x1 => ⟨oRest (.mn x0 x1)⟩) (fun x0 x1 => ⟨oRest (.mx x0 x1)⟩) (fun x0 x1 x2 => ⟨oRest (.slStr x0 x1 x2)⟩) (fun x0 x1 x2 x3 x4 => ⟨oSl x0 x1 x2 x3 x4⟩) (fun x0 x1 x2 x3 x4 x5 => ⟨oSlArr x0 x1 x2 x3 x4 x5⟩) (fun x0 x1 => ⟨oArrOf x0 x1⟩) (fun x0 x1 x2 => ⟨oFn has x0 x1 x2⟩) (fun x0 x1 => ⟨oBuild x0 x1⟩) (fun x0 x1 => ⟨oRest (.prim x0 x1)⟩) (fun x0 x1 x2 x3 x4 => ⟨oLook x0 x1 x2 x3 x4⟩) (fun x0 => ⟨oLenM x0⟩) (fun _ => ⟨oBad⟩) (fun _ => ⟨oBad⟩) (fun _ _ _ _ => ⟨oBad⟩) (fun _ _ _ _ => ⟨oBad⟩) ⟨oBad⟩ (fun _ _ _ => ⟨oBad⟩) (fun _ _ => ⟨oBad⟩) (fun _ _ => ⟨oBad⟩) (fun _ _ _ _ => ⟨oBad⟩) (fun _ _ _ _ _ => ⟨oBad⟩) (fun _ _ _ => ⟨oBad⟩) (fun _ _ _ _ => ⟨oBad⟩) (fun _ _ _ => ⟨oBad⟩) (fun _ => ⟨oBad⟩) (fun _ => ⟨oBad⟩) ⟨oBad⟩ op

/-! ### code -/
abbrev TL := List (Nat × Value)
noncomputable def TL.get (t : TL) (i : Nat) : Option Value := List.rec (motive := fun _ => Option Value) none (fun p _ ih => Bool.rec (motive := fun _ => Option Value) ih (some p.2) (Nat.beq i p.1)) t
def TL.put (t : TL) (d : Option Nat) (v : Value) : TL := match d with | none => t | some d => (d, v) :: t
noncomputable def TL.keep (ks : List Nat) (t : TL) : TL := List.rec (motive := fun _ => TL) [] (fun k _ ih => Option.rec (motive := fun _ => TL) ih (fun v => (k, v) :: ih) (TL.get t k)) ks
noncomputable def oevE (has : Nat → Bool) (t : TL) (x : Opd) : Option Value := match x with | .t i => TL.get t i | .c v => Bool.rec (motive := fun _ => Option Value) none (some v) (constOk v) | .f n => bif has n then some (.func (.func n) #[] #[]) else none

def sameV0 : Value → Value → Bool
  | .int k n, .int k' n' => decide (k = k') && decide (n = n')
  | .bool a, .bool b => a == b
  | .string a, .string b => a.data.toList == b.data.toList
  | .pointer a, .pointer b => decide (a = b)
  | .slice a n c, .slice b n' c' => decide (a = b) && (Nat.beq n n' && (Nat.beq c c' && (a.isNone || Nat.blt 0 n)))
  | .map a, .map b => decide (a = b)
  | _, _ => false
def sameL : List Value → List Value → Bool
  | [], [] => true
  | a :: as, b :: bs => sameV0 a b && sameL as bs
  | _, _ => false
def sameV : Value → Value → Bool
  | .agg a, .agg b => sameL a.toList b.toList
  | .tuple a, .tuple b => sameL a.toList b.toList
  | a, b => sameV0 a b
/-- Does what it tells hang on memory? -/
def memOp (op : AOp) : Bool :=
  match op with
  | .load _ _ => true
  | .strOf _ => true
  | .lookup _ _ _ _ _ => true
  | .lenM _ => true
  | _ => false
noncomputable def backOk (has : Nat → Bool) (ρ : Ev) (op : AOp) (v : Value) (back : Nat) (hist : List VM) : Bool :=
  !memOp op || (hist.take back).all fun g => match (boxP has op).f ρ g with | some u => sameV u v | none => false

abbrev KO := TL → VM → Option (TL × VM)
noncomputable def goOps (has : Nat → Bool) (call : CallE) (o : AOper) (ih : KO) (t : TL) (m : VM) : Option (TL × VM) :=
  match (boxW has o.op).f call (oevE has t) m with
  | some (v, m) => ih (TL.put t o.dst v) m
  | none => none
noncomputable def oneOps (has : Nat → Bool) (call : CallE) (o : AOper) (ih : KO) (t : TL) (m : VM) : Option (TL × VM) :=
  match o.guard with
  | none => goOps has call o ih t m
  | some (g, want) =>
    match TL.get t g with
    | some (.bool b) => bif b == want then goOps has call o ih t m else ih (TL.put t o.dst undef) m
    | _ => none
def endOps : KO := fun t m => some (t, m)
noncomputable def evOps (has : Nat → Bool) (call : CallE) (os : List AOper) : KO := List.rec (motive := fun _ => KO) endOps (fun o _ ih => oneOps has call o ih) os

abbrev KD := TL → VM → VM → List VM → Option (TL × VM)
noncomputable def goDE (has : Nat → Bool) (call : CallE) (o : DOper) (ih : KD) (t : TL) (m mb : VM) (hist : List VM) : Option (TL × VM) :=
  bif o.op.isW then (match (boxW has o.op).f call (oevE has t) m with | some (v, m) => ih (TL.put t o.dst v) m m (mb :: hist) | none => none)
  else bif o.op.isA then (match (boxW has o.op).f call (oevE has t) m with | some (v, m) => ih (TL.put t o.dst v) m mb hist | none => none)
  else (match (boxP has o.op).f (oevE has t) mb with | some v => bif backOk has (oevE has t) o.op v o.back hist then ih (TL.put t o.dst v) m mb hist else none | none => none)
noncomputable def oneDE (has : Nat → Bool) (call : CallE) (o : DOper) (ih : KD) (t : TL) (m mb : VM) (hist : List VM) : Option (TL × VM) :=
  match o.guard with
  | none => goDE has call o ih t m mb hist
  | some (g, want) =>
    match TL.get t g with
    | some (.bool b) => bif b == want then goDE has call o ih t m mb hist else ih (TL.put t o.dst undef) m mb (bif o.op.isW then mb :: hist else hist)
    | _ => none
def endDE : KD := fun t m _ _ => some (t, m)
noncomputable def evD (has : Nat → Bool) (call : CallE) (os : List DOper) : KD := List.rec (motive := fun _ => KD) endDE (fun o _ ih => oneDE has call o ih) os

abbrev KA := TL → VM → Option (AExit × TL × VM)
noncomputable def aSkip : KA := fun t m => some (.normal, t, m)
noncomputable def aOps (has : Nat → Bool) (call : CallE) (os : List AOper) (keep : List Nat) : KA := fun t m => match evOps has call os t m with | some (t, m) => some (.normal, TL.keep keep t, m) | none => none
noncomputable def aDops (has : Nat → Bool) (call : CallE) (os : List DOper) (keep : List Nat) : KA := fun t m => match evD has call os t m m [] with | some (t, m) => some (.normal, TL.keep keep t, m) | none => none
def thenE (x : Option (AExit × TL × VM)) (b : KA) : Option (AExit × TL × VM) :=
  match x with
  | none => none
  | some (e, t, m) => match e with | .normal => b t m | .exit i => some (.exit i, t, m) | .ret => some (.ret, t, m)
def aSeq (a b : KA) : KA := fun t m => thenE (a t m) b
noncomputable def aCond (has : Nat → Bool) (c : Opd) (a b : KA) : KA := fun t m => match oevE has t c with | some (.bool true) => a t m | some (.bool false) => b t m | _ => none
def leaveE (id : Nat) (x : Option (AExit × TL × VM)) : Option (AExit × TL × VM) :=
  match x with
  | none => none
  | some (e, t, m) => match e with | .normal => some (.normal, t, m) | .exit i => bif Nat.beq i id then some (.normal, t, m) else some (.exit i, t, m) | .ret => some (.ret, t, m)
def aBlock (id : Nat) (a : KA) : KA := fun t m => leaveE id (a t m)
def aExit (id : Nat) : KA := fun t m => some (.exit id, t, m)
def aRet : KA := fun t m => some (.ret, t, m)
def aBad : KA := fun _ _ => none
def aRound (body ih : KA) : KA := fun t m => thenE (body t m) ih
noncomputable def aLoop (lf : Nat) (body : KA) : KA := Nat.rec (motive := fun _ => KA) aBad (fun _ ih => aRound body ih) lf
noncomputable def evA (has : Nat → Bool) (call : CallE) (lf : Nat) (c : ACode) : KA :=
  ACode.rec (motive := fun _ => KA) aSkip (fun os keep => aOps has call os keep) (fun os keep => aDops has call os keep) (fun _ _ a b => aSeq a b) (fun c _ _ a b => aCond has c a b) (fun id _ a => aBlock id a) (fun _ a => aLoop lf a) (fun _ a => a) (fun id => aExit id) aRet aBad c

noncomputable def retE : List ARes → TL → VM → Option (List Value)
  | [], _, _ => some []
  | .tmp i :: r, t, m =>
    match TL.get t i, retE r t m with
    | some v, some vs => bif noTup v then some (v :: vs) else none
    | _, _ => none
  | .cell i k :: r, t, m =>
    match TL.get t i, retE r t m with
    | some (.pointer (some p)), some vs => (readE m p k).map (· :: vs)
    | _, _ => none
noncomputable def backE (rs : List ARes) (x : Option (AExit × TL × VM)) : RV :=
  match x with
  | none => none
  | some (e, t, m) =>
    match e with
    | .exit _ => none
    | _ => match retE rs t m with | some vs => some (retV vs, m) | none => none
noncomputable def bodyE (has : Nat → Bool) (call : CallE) (lf : Nat) (x : Option (Hint × AFunc)) (args : List Value) (m : VM) : RV :=
  match x with
  | none => none
  | some (_, af) => bif Nat.ble args.length af.nt then backE af.results (evA has call lf af.body (argsT 0 args) m) else none
def noCall : CallE := fun _ _ _ => none
/-- What is known of some functions already. -/
abbrev Hooks := Nat → Option (List Value → VM → RV)
noncomputable def hookE (hk : Option (List Value → VM → RV)) (d : List Value → VM → RV) : List Value → VM → RV := match hk with | some f => f | none => d
noncomputable def evF (tab : Nat → Option (Hint × AFunc)) (hk : Hooks) (lf d : Nat) : CallE :=
  Nat.rec (motive := fun _ => CallE) noCall (fun _ ih n => hookE (hk n) (bodyE (fun k => (tab k).isSome) ih lf (tab n))) d
def noHooks : Hooks := fun _ => none

def isTrue : RV → Bool
  | some (.bool true, _) => true
  | _ => false
end Go.Bb
