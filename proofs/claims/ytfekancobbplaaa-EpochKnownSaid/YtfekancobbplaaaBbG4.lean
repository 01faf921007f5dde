/- The engine: BbV BbX BbXa BbXm BbXn BbXp BbXq BbXr BbXs BbXt BbXu BbXv BbY1 BbY2 BbY3 BbY4 BbY5 BbY6. -/
import Derived.Test.YtfekancobbplaaaBbG3
/- Reckoning with the short form: what a closed call comes to, block by block, with numbers of its own for the blocks. -/
namespace Go.Bb
set_option linter.unusedVariables false
set_option linter.unusedSimpArgs false

/-- Values without a block, alike on both sides. -/
def plain : Value → Bool
  | .bool _ | .int .. | .string _ | .pointer none | .slice none _ _ | .map none | .nilFunc | .nilIface | .float .. | .complex .. => true
  | _ => false
def constOk : Value → Bool
  | .agg cs => cs.toList.all plain
  | v => plain v

/-- What a closure may hold. -/
def capOk : Value → Bool
  | .agg _ | .tuple _ | .func .. => false
  | _ => true
def noTup : Value → Bool
  | .tuple _ => false
  | _ => true

/-! ### a tree of blocks -/
inductive VB where
  | cells (es : Nat) (vs : List Value)
  | map (es : List MapEntry) (c : Nat)
  | iter (m since : Nat) (seen : List Nat) (c : Nat)

inductive Tr where
  | leaf
  | node (v : Option VB) (l r : Tr)

noncomputable def Tr.get (t : Tr) : Nat → Option VB :=
  Tr.rec (motive := fun _ => Nat → Option VB) (fun _ => none) (fun v _ _ l r n => Bool.rec (motive := fun _ => Option VB) (Bool.rec (motive := fun _ => Option VB) (r (n / 2 - 1)) (l (n / 2)) (Nat.beq (n % 2) 1)) v (Nat.beq n 0)) t
noncomputable def Tr.val (t : Tr) : Option VB := Tr.rec (motive := fun _ => Option VB) none (fun v _ _ _ _ => v) t
noncomputable def Tr.left (t : Tr) : Tr := Tr.rec (motive := fun _ => Tr) .leaf (fun _ l _ _ _ => l) t
noncomputable def Tr.right (t : Tr) : Tr := Tr.rec (motive := fun _ => Tr) .leaf (fun _ _ r _ _ => r) t
noncomputable def Tr.set (f : Nat) : Tr → Nat → Option VB → Tr :=
  Nat.rec (motive := fun _ => Tr → Nat → Option VB → Tr) (fun t _ _ => t)
    (fun _ ih t n x => Bool.rec (motive := fun _ => Tr) (Bool.rec (motive := fun _ => Tr) (.node t.val t.left (ih t.right (n / 2 - 1) x)) (.node t.val (ih t.left (n / 2) x) t.right) (Nat.beq (n % 2) 1)) (.node x t.left t.right) (Nat.beq n 0)) f

structure VM where
  tr : Tr
  next : Nat
noncomputable def VM.get (m : VM) (b : Nat) : Option VB := m.tr.get b
noncomputable def VM.set (m : VM) (b : Nat) (x : Option VB) : VM := ⟨m.tr.set 40 b x, m.next⟩
noncomputable def VM.new (m : VM) (x : VB) : VM := ⟨m.tr.set 40 m.next (some x), m.next + 1⟩
/-- A new block, if there are not too many. -/
noncomputable def newE (m : VM) (x : VB) (mk : Nat → Value) : Option (Value × VM) := Bool.rec (motive := fun _ => Option (Value × VM)) none (some (mk m.next, m.new x)) (Nat.ble m.next 1000000000)
def VM.start : VM := ⟨.leaf, 1⟩

/-! #### looking at a value -/
structure SlE where
  a : Option Addr
  n : Nat
  c : Nat
structure FnE where
  f : Fn
  a : Array Value
  b : Array Value
structure IntE where
  k : IntKind
  n : Int
noncomputable def vInt (v : Value) : Option (IntE) := Value.rec (motive_1 := fun _ => Option (IntE)) (motive_2 := fun _ => PUnit) (motive_3 := fun _ => PUnit) (fun _ => none) (fun k n => some ⟨k, n⟩) (fun _ _ => none) (fun _ _ _ => none) (fun _ => none) (fun _ => none) (fun _ _ _ => none) (fun _ => none) (fun _ => none) (fun _ _ _ _ _ => none) none (fun _ _ _ => none) none (fun _ _ => none) (fun _ _ => none) (fun _ _ => ⟨⟩) ⟨⟩ (fun _ _ _ _ => ⟨⟩) v
noncomputable def vBool (v : Value) : Option (Bool) := Value.rec (motive_1 := fun _ => Option (Bool)) (motive_2 := fun _ => PUnit) (motive_3 := fun _ => PUnit) (fun b => some b) (fun _ _ => none) (fun _ _ => none) (fun _ _ _ => none) (fun _ => none) (fun _ => none) (fun _ _ _ => none) (fun _ => none) (fun _ => none) (fun _ _ _ _ _ => none) none (fun _ _ _ => none) none (fun _ _ => none) (fun _ _ => none) (fun _ _ => ⟨⟩) ⟨⟩ (fun _ _ _ _ => ⟨⟩) v
noncomputable def vPtr (v : Value) : Option (Option Addr) := Value.rec (motive_1 := fun _ => Option (Option Addr)) (motive_2 := fun _ => PUnit) (motive_3 := fun _ => PUnit) (fun _ => none) (fun _ _ => none) (fun _ _ => none) (fun _ _ _ => none) (fun _ => none) (fun b => some b) (fun _ _ _ => none) (fun _ => none) (fun _ => none) (fun _ _ _ _ _ => none) none (fun _ _ _ => none) none (fun _ _ => none) (fun _ _ => none) (fun _ _ => ⟨⟩) ⟨⟩ (fun _ _ _ _ => ⟨⟩) v
noncomputable def vSl (v : Value) : Option (SlE) := Value.rec (motive_1 := fun _ => Option (SlE)) (motive_2 := fun _ => PUnit) (motive_3 := fun _ => PUnit) (fun _ => none) (fun _ _ => none) (fun _ _ => none) (fun _ _ _ => none) (fun _ => none) (fun _ => none) (fun a n c => some ⟨a, n, c⟩) (fun _ => none) (fun _ => none) (fun _ _ _ _ _ => none) none (fun _ _ _ => none) none (fun _ _ => none) (fun _ _ => none) (fun _ _ => ⟨⟩) ⟨⟩ (fun _ _ _ _ => ⟨⟩) v
noncomputable def vMap (v : Value) : Option (Option Nat) := Value.rec (motive_1 := fun _ => Option (Option Nat)) (motive_2 := fun _ => PUnit) (motive_3 := fun _ => PUnit) (fun _ => none) (fun _ _ => none) (fun _ _ => none) (fun _ _ _ => none) (fun _ => none) (fun _ => none) (fun _ _ _ => none) (fun b => some b) (fun _ => none) (fun _ _ _ _ _ => none) none (fun _ _ _ => none) none (fun _ _ => none) (fun _ _ => none) (fun _ _ => ⟨⟩) ⟨⟩ (fun _ _ _ _ => ⟨⟩) v
noncomputable def vFn (v : Value) : Option (FnE) := Value.rec (motive_1 := fun _ => Option (FnE)) (motive_2 := fun _ => PUnit) (motive_3 := fun _ => PUnit) (fun _ => none) (fun _ _ => none) (fun _ _ => none) (fun _ _ _ => none) (fun _ => none) (fun _ => none) (fun _ _ _ => none) (fun _ => none) (fun _ => none) (fun f a b _ _ => some ⟨f, a, b⟩) none (fun _ _ _ => none) none (fun _ _ => none) (fun _ _ => none) (fun _ _ => ⟨⟩) ⟨⟩ (fun _ _ _ _ => ⟨⟩) v
noncomputable def vAgg (v : Value) : Option (Array Value) := Value.rec (motive_1 := fun _ => Option (Array Value)) (motive_2 := fun _ => PUnit) (motive_3 := fun _ => PUnit) (fun _ => none) (fun _ _ => none) (fun _ _ => none) (fun _ _ _ => none) (fun _ => none) (fun _ => none) (fun _ _ _ => none) (fun _ => none) (fun _ => none) (fun _ _ _ _ _ => none) none (fun _ _ _ => none) none (fun a _ => some a) (fun _ _ => none) (fun _ _ => ⟨⟩) ⟨⟩ (fun _ _ _ _ => ⟨⟩) v
noncomputable def vTup (v : Value) : Option (Array Value) := Value.rec (motive_1 := fun _ => Option (Array Value)) (motive_2 := fun _ => PUnit) (motive_3 := fun _ => PUnit) (fun _ => none) (fun _ _ => none) (fun _ _ => none) (fun _ _ _ => none) (fun _ => none) (fun _ => none) (fun _ _ _ => none) (fun _ => none) (fun _ => none) (fun _ _ _ _ _ => none) none (fun _ _ _ => none) none (fun _ _ => none) (fun a _ => some a) (fun _ _ => ⟨⟩) ⟨⟩ (fun _ _ _ _ => ⟨⟩) v
/-! ### numbers are reckoned at once -/
def fNat {α : Type} (n : Nat) (K : Nat → α) : α := match n with | 0 => K 0 | k + 1 => K (k + 1)
def fInt {α : Type} (n : Int) (K : Int → α) : α := match n with | .ofNat k => fNat k fun k => K (.ofNat k) | .negSucc k => fNat k fun k => K (.negSucc k)
def mkInt (k : IntKind) (n : Int) : Option Value := fInt n fun n => some (.int k n)
def mkBool (b : Bool) : Option Value := match b with | true => some (.bool true) | false => some (.bool false)
def mkPtr (b o : Nat) : Option Value := fNat o fun o => some (.pointer (some ⟨b, o, none⟩))
/-! ### memory -/
def takeE : List Value → Nat → Option (List Value)
  | _, 0 => some []
  | [], _ + 1 => none
  | v :: r, n + 1 => (takeE r n).map (v :: ·)
/-- One list over another, from a place on. -/
noncomputable def putE (l : List Value) : Nat → List Value → Option (List Value) :=
  List.rec (motive := fun _ => Nat → List Value → Option (List Value)) (fun _ us => List.rec (motive := fun _ => Option (List Value)) (some []) (fun _ _ _ => none) us)
    (fun v r ih i us => List.rec (motive := fun _ => Option (List Value)) (some (v :: r))
      (fun u us' _ => Nat.rec (motive := fun _ => Option (List Value)) (Option.rec (motive := fun _ => Option (List Value)) none (fun z => some (u :: z)) (ih 0 us')) (fun i' _ => Option.rec (motive := fun _ => Option (List Value)) none (fun z => some (v :: z)) (ih i' us)) i) us) l

noncomputable def cellsE (m : VM) (a : Addr) (n : Nat) : Option (List Value) :=
  match a.spot, n with
  | some _, _ => none
  | none, 0 => some []
  | none, n + 1 => match m.get a.block with | some (.cells _ vs) => takeE (vs.drop a.off) (n + 1) | _ => none
noncomputable def readE (m : VM) (a : Addr) : Option Nat → Option Value
  | none => match a.spot with | some _ => none | none => (match m.get a.block with | some (.cells _ vs) => vs[a.off]? | _ => none)
  | some n => (cellsE m a n).map fun l => .agg l.toArray
noncomputable def storeE (m : VM) (a : Addr) (us : List Value) : Option VM :=
  match us with
  | [] => some m
  | _ :: _ =>
    match a.spot with
    | some _ => none
    | none =>
      match m.get a.block with
      | some (.cells es vs) => (putE vs a.off us).map fun vs => m.set a.block (some (.cells es vs))
      | _ => none
noncomputable def esE (m : VM) (b : Nat) : Option Nat := match m.get b with | some (.cells es _) => some es | _ => none
noncomputable def exactE (m : VM) (b : Nat) : Bool := match esE m b with | some 0 => true | _ => false
noncomputable def growE (m : VM) (b size : Nat) : Bool := match esE m b with | some (es + 1) => Nat.beq (es + 1) size | _ => false

def bndsE (len : Nat) (lo hi : Option (Option Value)) : Option (Nat × Nat) :=
  match bndV len len hi with
  | none => none
  | some h => match bndV 0 h lo with | none => none | some l => some (l, h)


/-! #### operations, each by itself -/
abbrev Ev := (Opd → Option Value)
abbrev RV := Option (Value × VM)
def wrapE (k : IntKind) (n : Int) : Int :=
  match n with
  | .negSucc _ => k.wrap n
  | .ofNat n =>
    match k with
    | .u8 => .ofNat (n % 256)
    | .u16 => .ofNat (n % 65536)
    | .u32 => .ofNat (n % 4294967296)
    | .u64 => .ofNat (n % 18446744073709551616)
    | .i64 => bif Nat.blt n 9223372036854775808 then .ofNat n else IntKind.wrap .i64 (.ofNat n)
    | k => k.wrap (.ofNat n)
def bitsE (f : Nat → Nat → Nat) (op : BinOp) (k : IntKind) (a b : Int) : Option Value :=
  match a, b with
  | .ofNat a', .ofNat b' =>
    (match k with
    | .u8 => mkInt .u8 (.ofNat (f (a' % 256) (b' % 256)))
    | .u32 => mkInt .u32 (.ofNat (f (a' % 4294967296) (b' % 4294967296)))
    | .u64 => mkInt .u64 (.ofNat (f (a' % 18446744073709551616) (b' % 18446744073709551616)))
    | k => binV op (.int k a) (.int k b))
  | a, b => binV op (.int k a) (.int k b)
def ltE (a b : Int) : Bool := match a, b with | .ofNat a, .ofNat b => Nat.blt a b | .negSucc _, .ofNat _ => true | .ofNat _, .negSucc _ => false | .negSucc a, .negSucc b => Nat.blt b a
def leE (a b : Int) : Bool := match a, b with | .ofNat a, .ofNat b => Nat.ble a b | .negSucc _, .ofNat _ => true | .ofNat _, .negSucc _ => false | .negSucc a, .negSucc b => Nat.ble b a
def eqE (a b : Int) : Bool := match a, b with | .ofNat a, .ofNat b => Nat.beq a b | .negSucc _, .ofNat _ => false | .ofNat _, .negSucc _ => false | .negSucc a, .negSucc b => Nat.beq a b
noncomputable def kNum (k : IntKind) : Nat := IntKind.rec (motive := fun _ => Nat) 0 1 2 3 4 5 6 7 k
noncomputable def kEq (k k' : IntKind) : Bool := Nat.beq (kNum k) (kNum k')
def iAdd (k : IntKind) (a b : Int) : Option Value := mkInt k (wrapE k (a + b))
def iSub (k : IntKind) (a b : Int) : Option Value := mkInt k (wrapE k (a - b))
def iMul (k : IntKind) (a b : Int) : Option Value := mkInt k (wrapE k (a * b))
def iEq (k : IntKind) (a b : Int) : Option Value := mkBool (eqE a b)
def iNe (k : IntKind) (a b : Int) : Option Value := mkBool (!eqE a b)
def iLt (k : IntKind) (a b : Int) : Option Value := mkBool (ltE a b)
def iLe (k : IntKind) (a b : Int) : Option Value := mkBool (leE a b)
def iGt (k : IntKind) (a b : Int) : Option Value := mkBool (ltE b a)
def iGe (k : IntKind) (a b : Int) : Option Value := mkBool (leE b a)
def iShl (k : IntKind) (a b : Int) : Option Value :=
  match a, b with
  | .ofNat a, .ofNat b => mkInt k (wrapE k (.ofNat (Nat.shiftLeft a (min b k.bits))))
  | a, b => binV .shl (.int k a) (.int .u64 b)
def iShr (k : IntKind) (a b : Int) : Option Value :=
  match a, b with
  | .ofNat a, .ofNat b => mkInt k (.ofNat (Nat.shiftRight a (min b k.bits)))
  | a, b => binV .shr (.int k a) (.int .u64 b)
def iOther (op : BinOp) (k : IntKind) (a b : Int) : Option Value := match binV op (.int k a) (.int k b) with | some (.int k n) => mkInt k n | x => x
structure BoxI where
  f : IntKind → Int → Int → Option Value
  sh : Bool
noncomputable def boxI (op : BinOp) : BoxI := BinOp.rec (motive := fun _ => BoxI) ⟨iAdd, false⟩ ⟨iSub, false⟩ ⟨iMul, false⟩ ⟨iOther .quo, false⟩ ⟨iOther .rem, false⟩ ⟨(bitsE Nat.land .and), false⟩ ⟨(bitsE Nat.lor .or), false⟩ ⟨(bitsE Nat.xor .xor), false⟩ ⟨iShl, true⟩ ⟨iShr, true⟩ ⟨iOther .andNot, false⟩ ⟨iEq, false⟩ ⟨iNe, false⟩ ⟨iLt, false⟩ ⟨iLe, false⟩ ⟨iGt, false⟩ ⟨iGe, false⟩ op
noncomputable def binE (op : BinOp) (x y : Value) : Option Value :=
  match vInt x, vInt y with
  | some ⟨k, a⟩, some ⟨k', b⟩ => (bif (boxI op).sh || kEq k k' then (boxI op).f k a b else none)
  | _, _ => binV op x y

noncomputable def oLoad (k : Option Nat) (x : Opd) (ρ : Ev) (m : VM) : Option Value :=
  match ρ x with
  | some v => (match vPtr v with | some (some a) => readE m a k | _ => none)
  | none => none
noncomputable def oStrOf (x : Opd) (ρ : Ev) (m : VM) : Option Value :=
  match ρ x with
  | some v => (match vSl v with
    | some ⟨none, _, _⟩ => some (.string .empty)
    | some ⟨some a, n, _⟩ => (match cellsE m a n with | some l => (bytesV l).map fun bs => .string ⟨bs.toArray⟩ | none => none)
    | none => none)
  | none => none
noncomputable def oCap (x : Opd) (ρ : Ev) (m : VM) : Option Value :=
  match ρ x with
  | some v => (match vSl v with
    | some ⟨none, _, n⟩ => mkInt .i64 n
    | some ⟨some a, _, n⟩ => bif exactE m a.block then mkInt .i64 n else none
    | none => none)
  | none => none
def mkSl (a : Addr) (n c : Nat) : Option Value := match a with | ⟨b, o, none⟩ => fNat o fun o => fNat n fun n => fNat c fun c => some (.slice (some ⟨b, o, none⟩) n c) | ⟨_, _, some _⟩ => none
def cutE (a : Addr) (size l h m' : Nat) : Option Value := mkSl (bif Nat.beq m' l then a else a.add (l * size)) (h - l) (m' - l)
noncomputable def oSl (size : Nat) (x : Opd) (lo hi mx : Option Opd) (ρ : Ev) (m : VM) : Option Value :=
  match ρ x with
  | some v => (match vSl v with
    | some ⟨none, len, cap⟩ => (match bnds len cap (oOpt ρ lo) (oOpt ρ hi) (oOpt ρ mx) with | some (l, h, m') => some (.slice none (h - l) (m' - l)) | none => none)
    | some ⟨some a, len, cap⟩ =>
      (bif exactE m a.block then
        match bnds len cap (oOpt ρ lo) (oOpt ρ hi) (oOpt ρ mx) with
        | some (l, h, m') => cutE a size l h m'
        | none => none
      else bif mx.isNone && growE m a.block size then
        match bndsE len (oOpt ρ lo) (oOpt ρ hi) with
        | some (l, h) => mkSl (a.add (l * size)) (h - l) 0
        | none => none
      else none)
    | none => none)
  | none => none
noncomputable def oSlArr (n size : Nat) (x : Opd) (lo hi k : Option Opd) (ρ : Ev) (m : VM) : Option Value :=
  match ρ x with
  | some v => (match vPtr v with
    | some (some a) =>
      (bif exactE m a.block then
        match bnds n n (oOpt ρ lo) (oOpt ρ hi) (oOpt ρ k) with
        | some (l, h, m') => cutE a size l h m'
        | none => none
      else none)
    | _ => none)
  | none => none
noncomputable def oArrOf (n : Nat) (x : Opd) (ρ : Ev) (m : VM) : Option Value :=
  match ρ x with
  | some v => (match vSl v with | some ⟨some a, len, _⟩ => bif Nat.ble n len && Nat.blt 0 n then some (.pointer (some a)) else none | _ => none)
  | none => none
def oFn (has : Nat → Bool) (n : Nat) (first captured : List Opd) (ρ : Ev) (m : VM) : Option Value :=
  match allV ρ first, allV ρ captured with
  | some a, some b => bif has n && (a.all capOk && b.all capOk) then some (.func (.func n) a.toArray b.toArray) else none
  | _, _ => none
noncomputable def foundE (z : Value) (ok : Bool) (kt : KeyT) (kv : Value) (es : List MapEntry) : Option Value :=
  match keyFit kt kv, findV kt kv es 0 with
  | some _, some (some (_, v)) => some (if ok = true then .tuple #[v, .bool true] else v)
  | some _, some none => some (if ok = true then .tuple #[z, .bool false] else z)
  | _, _ => none
noncomputable def oLook (kt : KeyT) (z : Value) (ok : Bool) (x k : Opd) (ρ : Ev) (m : VM) : Option Value :=
  match (bif constOk z then ρ x else none), ρ k with
  | some v, some kv => (bif constOk kv then (match vMap v with
    | some none => (keyFit kt kv).map fun _ => if ok = true then .tuple #[z, .bool false] else z
    | some (some r) => (match m.get r with | some (.map es _) => foundE z ok kt kv es | _ => none)
    | none => none) else none)
  | _, _ => none
noncomputable def oLenM (x : Opd) (ρ : Ev) (m : VM) : Option Value :=
  match ρ x with
  | some v => (match vMap v with
    | some none => mkInt .i64 0
    | some (some r) => (match m.get r with | some (.map es _) => mkInt .i64 es.length | _ => none)
    | none => none)
  | none => none
def oMv (x : Opd) (ρ : Ev) (m : VM) : Option Value := ρ x
def oNum (n : Nat) (ρ : Ev) (m : VM) : Option Value := some (.int .i64 n)
noncomputable def oBin (op : BinOp) (x y : Opd) (ρ : Ev) (m : VM) : Option Value := match ρ x, ρ y with | some a, some b => binE op a b | _, _ => none
noncomputable def oNilc (x : Opd) (ρ : Ev) (m : VM) : Option Value :=
  match ρ x with
  | some v => (match vPtr v with
    | some (some _) => some v
    | some none => none
    | none => (match vFn v with | some ⟨.func _, _, _⟩ => some v | _ => none))
  | none => none
noncomputable def oPick (c a b : Opd) (ρ : Ev) (m : VM) : Option Value :=
  match ρ c with
  | some v => (match vBool v with | some true => ρ a | some false => ρ b | none => none)
  | none => none
noncomputable def oConv (k : IntKind) (x : Opd) (ρ : Ev) (m : VM) : Option Value :=
  match ρ x with
  | some v => (match vInt v with | some ⟨_, n⟩ => mkInt k (wrapE k n) | none => none)
  | none => none
noncomputable def oFaddr (off : Nat) (x : Opd) (ρ : Ev) (m : VM) : Option Value :=
  match ρ x with
  | some v => (match vPtr v with | some (some ⟨b, o, none⟩) => mkPtr b (o + off) | _ => none)
  | none => none
def inE (j : Int) (n : Nat) : Option Nat := match j with | .ofNat j => bif Nat.blt j n then some j else none | _ => none
noncomputable def oIaddrA (n size : Nat) (x i : Opd) (ρ : Ev) (m : VM) : Option Value :=
  match ρ x, ρ i with
  | some v, some u => (match vPtr v, vInt u with
    | some (some ⟨b, o, none⟩), some ⟨_, j⟩ => (match inE j n with | some j => mkPtr b (o + j * size) | none => none)
    | _, _ => none)
  | _, _ => none
noncomputable def oIaddrS (size : Nat) (x i : Opd) (ρ : Ev) (m : VM) : Option Value :=
  match ρ x, ρ i with
  | some v, some u => (match vSl v, vInt u with
    | some ⟨some ⟨b, o, none⟩, n, _⟩, some ⟨_, j⟩ => (match inE j n with | some j => mkPtr b (o + j * size) | none => none)
    | _, _ => none)
  | _, _ => none
noncomputable def oExt (x : Opd) (i : Nat) (ρ : Ev) (m : VM) : Option Value :=
  match ρ x with
  | some v => (match vTup v with | some vs => vs.toList[i]? | none => none)
  | none => none
noncomputable def oLenS (x : Opd) (ρ : Ev) (m : VM) : Option Value :=
  match ρ x with
  | some v => (match vSl v with | some ⟨_, n, _⟩ => mkInt .i64 n | none => none)
  | none => none
noncomputable def oField (k : Option Nat) (off : Nat) (x : Opd) (ρ : Ev) (m : VM) : Option Value :=
  match ρ x with
  | some v => (match vAgg v with | some cs => z6n cs.toList off k | none => none)
  | none => none
def oRest (op : AOp) (ρ : Ev) (m : VM) : Option Value := pureV (fun _ => none) ρ (fun _ => none) op
def oBuild (z : List Value) (ps : List (Nat × Nat × Opd)) (ρ : Ev) (m : VM) : Option Value := bif z.all plain then (match allP ρ ps with | some ps => (match (bif ps.all (fun p => noTup p.2.2) then z6j z ps else none) with | some l => some (.agg l.toArray) | none => none) | none => none) else none
def oBad (ρ : Ev) (m : VM) : Option Value := none
abbrev AV := Option (VB × (Nat → Value))
def aAlloc (z : List Value) (ρ : Ev) : AV := bif z.all plain then some (.cells 0 z, fun b => .pointer (some ⟨b, 0, none⟩)) else none
def aBox (x : Opd) (ρ : Ev) : AV := match ρ x with | some v => (bif noTup v then some (.cells 0 v.cells.toList, fun b => .pointer (some ⟨b, 0, none⟩)) else none) | none => none
def aBslice (n size : Nat) (z : List Value) (parts : List (Nat × Nat × Opd)) (ρ : Ev) : AV :=
  bif z.all plain then
    match allP ρ parts with
    | some ps => (match (bif ps.all (fun p => noTup p.2.2) then z6j (List.flatten (List.replicate n z)) ps else none) with | some l => some (.cells 0 l, fun b => .slice (some ⟨b, 0, none⟩) n n) | none => none)
    | none => none
  else none
noncomputable def aMslice (bytes : Nat) (z : List Value) (l c : Opd) (ρ : Ev) : AV :=
  bif z.all plain then
    match ρ l, ρ c with
    | some l, some c => (match vInt l, vInt c with
      | some ⟨_, l⟩, some ⟨_, c⟩ => if 0 ≤ l ∧ l ≤ c ∧ c ≤ 9223372036854775807 ∧ bytes * c ≤ 281474976710656 then some (.cells 0 (List.flatten (List.replicate c.toNat z)), fun b => .slice (some ⟨b, 0, none⟩) l.toNat c.toNat) else none
      | _, _ => none)
    | _, _ => none
  else none
def aMmap (ρ : Ev) : AV := some (.map [] 0, fun b => .map (some b))

noncomputable def readXE (m : VM) (size : Nat) : Value → Option (Nat × List Value)
  | .slice none n _ => if n = 0 then some (0, []) else none
  | .slice (some a) n _ => (cellsE m a (n * size)).map fun l => (n, l)
  | .string s => if size = 1 then some (s.size, s.data.toList.map fun b => .int .u8 b.toNat) else none
  | _ => none

noncomputable def appA (size : Nat) (m : VM) (a : Addr) (n c k : Nat) (news : List Value) : RV :=
  match m.get a.block with
  | some (.cells es vs) =>
    match es with
    | 0 =>
      bif Nat.ble (n + k) c then (storeE m (a.add (n * size)) news).map fun m => (.slice (some a) (n + k) c, m)
      else match cellsE m a (n * size) with | some old => newE m (.cells size (old ++ news)) (fun b => .slice (some ⟨b, 0, none⟩) (n + k) 0) | none => none
    | es + 1 =>
      bif Nat.beq (es + 1) size && Nat.ble a.off vs.length then (match cellsE m a (n * size) with | some old => newE (m.set a.block none) (.cells size (old ++ news)) (fun b => .slice (some ⟨b, 0, none⟩) (n + k) 0) | none => none) else none
  | _ => none
noncomputable def appE (size bytes : Nat) (m : VM) (base : Option Addr) (n c k : Nat) (news : List Value) : RV :=
  match base with
  | none =>
    bif Nat.beq k 0 then (bif Nat.ble n c then some (.slice none n c, m) else none)
    else bif Nat.beq n 0 && Nat.beq c 0 && Nat.ble (k * bytes) 140737488355328 && Nat.ble k 9223372036854775807 then newE m (.cells size news) (fun b => .slice (some ⟨b, 0, none⟩) k 0) else none
  | some a =>
    bif Nat.beq k 0 then some (.slice base n c, m)
    else bif Nat.ble ((n + k) * bytes) 140737488355328 && Nat.ble (n + k) 9223372036854775807 then appA size m a n c k news
    else none

abbrev CallE := Nat → List Value → VM → RV
noncomputable def wStore (size : Nat) (a x : Opd) (call : CallE) (ρ : Ev) (m : VM) : RV :=
  match ρ a, ρ x with
  | some (.pointer (some p)), some v => bif Nat.beq v.cells.size size && v.cells.toList.all one then (storeE m p v.cells.toList).map fun m => (undef, m) else none
  | _, _ => none
noncomputable def wCall (n : Nat) (args : List Opd) (call : CallE) (ρ : Ev) (m : VM) : RV := match allV ρ args with | some vs => call n vs m | none => none
noncomputable def wCallv (f : Opd) (args : List Opd) (call : CallE) (ρ : Ev) (m : VM) : RV :=
  match ρ f, allV ρ args with
  | some (.func (.func g) first cap), some vs => call g (first.toList ++ vs ++ cap.toList) m
  | _, _ => none
noncomputable def wAppend (size bytes : Nat) (s x : Opd) (call : CallE) (ρ : Ev) (m : VM) : RV :=
  match ρ s, ρ x with
  | some (.slice base n c), some xv => (match readXE m size xv with | some (k, news) => bif news.all one && Nat.blt 0 size then appE size bytes m base n c k news else none | none => none)
  | _, _ => none
noncomputable def wAppendZ (size bytes : Nat) (z : List Value) (s x : Opd) (call : CallE) (ρ : Ev) (m : VM) : RV :=
  match ρ s, ρ x with
  | some (.slice base n c), some (.int _ k) => bif decide (0 ≤ k ∧ k ≤ 9223372036854775807 ∧ k * bytes ≤ 281474976710656) && (z.all plain && (Nat.beq z.length size && Nat.blt 0 size)) then appE size bytes m base n c k.toNat (List.flatten (List.replicate k.toNat z)) else none
  | _, _ => none
noncomputable def wCopy (size : Nat) (d s : Opd) (call : CallE) (ρ : Ev) (m : VM) : RV :=
  match ρ d, ρ s with
  | some (.slice base n _), some (.slice (some b) k _) =>
    (match cellsE m b (min k n * size) with
    | some l => bif l.all one then (match base with | none => some (.int .i64 (min k n : Nat), m) | some a => (storeE m a l).map fun m => (.int .i64 (min k n : Nat), m)) else none
    | none => none)
  | some (.slice base n _), some (.slice none k _) => if k = 0 then some (.int .i64 0, m) else none
  | some (.slice base n _), some (.string s) =>
    (match base with
    | none => some (.int .i64 (min s.size n : Nat), m)
    | some a => if size = 1 then (storeE m a ((s.data.toList.take (min s.size n)).map fun b => .int .u8 b.toNat)).map fun m => (.int .i64 (min s.size n : Nat), m) else none)
  | _, _ => none
noncomputable def wMupd (kt : KeyT) (x k v : Opd) (call : CallE) (ρ : Ev) (m : VM) : RV :=
  match ρ x, ρ k, ρ v with
  | some (.map (some r)), some kv, some vv =>
    (match (bif constOk kv && noTup vv then m.get r else none) with
    | some (.map es c) =>
      (match keyFit kt kv, findV kt kv es 0 with
      | some _, some (some (i, _)) => some (undef, m.set r (some (.map (es.modify i fun e => { e with key := kv, val := vv }) c)))
      | some _, some none => some (undef, m.set r (some (.map (es ++ [{ key := kv, val := vv, born := c }]) (c + 1))))
      | _, _ => none)
    | _ => none)
  | _, _, _ => none
noncomputable def wMdel (kt : KeyT) (x k : Opd) (call : CallE) (ρ : Ev) (m : VM) : RV :=
  match ρ x, ρ k with
  | some (.map (some r)), some kv =>
    (match (bif constOk kv then m.get r else none) with
    | some (.map es c) =>
      (match keyFit kt kv, findV kt kv es 0 with
      | some _, some (some (i, _)) => some (.tuple #[], m.set r (some (.map (es.eraseIdx i) c)))
      | some _, some none => some (.tuple #[], m.set r (some (.map es c)))
      | _, _ => none)
    | _ => none)
  | _, _ => none
noncomputable def wBytes (x : Opd) (call : CallE) (ρ : Ev) (m : VM) : RV := match ρ x with | some (.string s) => newE m (.cells 1 (s.data.toList.map fun b => .int .u8 b.toNat)) (fun b => .slice (some ⟨b, 0, none⟩) s.size 0) | _ => none
noncomputable def wMark (x : Opd) (call : CallE) (ρ : Ev) (m : VM) : RV := match ρ x with | some (.slice (some a) n c) => (match m.get a.block with | some (.cells _ _) => some (.slice (some a) n c, m) | _ => none) | _ => none
noncomputable def wRange (x : Opd) (call : CallE) (ρ : Ev) (m : VM) : RV :=
  match ρ x with
  | some (.map (some b)) => (match m.get b with | some (.map es c) => newE m (.iter b c [] c) (fun r => .pointer (some ⟨r, 0, none⟩)) | _ => none)
  | _ => none
noncomputable def leftE (es : List MapEntry) (seen : List Nat) : List MapEntry := es.filter fun e => !seen.contains e.born
/-- One step of a walk over a map: at most one entry may be left, else the order is open. -/
noncomputable def wNext (x : Opd) (call : CallE) (ρ : Ev) (m : VM) : RV :=
  match ρ x with
  | some (.pointer (some ⟨r, 0, none⟩)) =>
    (match m.get r with
    | some (.iter b since seen c0) =>
      (match m.get b with
      | some (.map es clock) =>
        bif (es.all fun e => Nat.blt e.born since) && Nat.ble since c0 then
          (match leftE es seen with
          | [] => some (.tuple #[.bool false], m)
          | [e] => bif constOk e.key then some (.tuple #[.bool true, e.key, e.val], m.set r (some (.iter b since (seen ++ [e.born]) clock))) else none
          | _ => none)
        else none
      | _ => none)
    | _ => none)
  | _ => none
noncomputable def wEntry (x : Opd) (call : CallE) (ρ : Ev) (m : VM) : RV :=
  match ρ x with
  | some (.pointer (some ⟨r, 0, none⟩)) =>
    (match m.get r with
    | some (.iter b since seen c0) =>
      (match m.get b with
      | some (.map es clock) =>
        (match seen.getLast? with
        | some stamp => (match es.find? (fun e => Nat.beq e.born stamp) with | some e => bif Nat.beq clock c0 && constOk e.key then some (.tuple #[e.key, e.val], m) else none | none => none)
        | none => none)
      | _ => none)
    | _ => none)
  | _ => none
noncomputable def wAlloc (f : Ev → AV) (call : CallE) (ρ : Ev) (m : VM) : RV := match f ρ with | some (vb, mk) => newE m vb mk | none => none
noncomputable def wPure (f : Ev → VM → Option Value) (call : CallE) (ρ : Ev) (m : VM) : RV := match f ρ m with | some v => some (v, m) | none => none
noncomputable def wNone (call : CallE) (ρ : Ev) (m : VM) : RV := none
structure BoxW where
  f : CallE → Ev → VM → RV
noncomputable def boxW (has : Nat → Bool) (op : AOp) : BoxW := AOp.rec (motive := fun _ => BoxW) (fun x0 => ⟨wPure (oMv x0)⟩) (fun x0 => ⟨wPure (oNum x0)⟩) (fun x0 x1 x2 => ⟨wPure (oPick x0 x1 x2)⟩) (fun x0 x1 => ⟨wPure (oLoad x0 x1)⟩) (fun x0 => ⟨wPure (oNilc x0)⟩) (fun x0 x1 x2 => ⟨wPure (oBin x0 x1 x2)⟩) (fun x0 x1 x2 x3 => ⟨wPure (oRest (.eqv x0 x1 x2 x3))⟩) (fun x0 x1 x2 x3 => ⟨wPure (oRest (.eqa x0 x1 x2 x3))⟩) (fun x0 x1 => ⟨wPure (oRest (.un x0 x1))⟩) (fun x0 x1 => ⟨wPure (oConv x0 x1)⟩) (fun x0 => ⟨wPure (oStrOf x0)⟩) (fun x0 => ⟨wPure (oRest (.strId x0))⟩) (fun x0 x1 => ⟨wPure (oFaddr x0 x1)⟩) (fun x0 x1 x2 => ⟨wPure (oField x0 x1 x2)⟩) (fun x0 x1 x2 x3 => ⟨wPure (oIaddrA x0 x1 x2 x3)⟩) (fun x0 x1 x2 => ⟨wPure (oIaddrS x0 x1 x2)⟩) (fun x0 x1 x2 x3 x4 => ⟨wPure (oRest (.idxA x0 x1 x2 x3 x4))⟩) (fun x0 x1 => ⟨wPure (oRest (.idxS x0 x1))⟩) (fun x0 x1 => ⟨wPure (oExt x0 x1)⟩) (fun x0 => ⟨wPure (oLenS x0)⟩) (fun x0 => ⟨wPure (oRest (.lenStr x0))⟩) (fun x0 => ⟨wPure (oCap x0)⟩) (fun x0 x1 => ⟨wPure (oRest (.mn x0 x1))⟩) (fun x0 x1 => ⟨wPure (oRest (.mx x0 x1))⟩) (fun x0 x1 x2 => ⟨wPure (oRest (.slStr x0 x1 x2))⟩) (fun x0 x1 x2 x3 x4 => ⟨wPure (oSl x0 x1 x2 x3 x4)⟩) (fun x0 x1 x2 x3 x4 x5 => ⟨wPure (oSlArr x0 x1 x2 x3 x4 x5)⟩) (fun x0 x1 => ⟨wPure (oArrOf x0 x1)⟩) (fun x0 x1 x2 => ⟨wPure (oFn has x0 x1 x2)⟩) (fun x0 x1 => ⟨wPure (oBuild x0 x1)⟩) (fun x0 x1 => ⟨wPure (oRest (.prim x0 x1))⟩) (fun x0 x1 x2 x3 x4 => ⟨wPure (oLook x0 x1 x2 x3 x4)⟩) (fun x0 => ⟨wPure (oLenM x0)⟩) (fun x0 => ⟨wAlloc (aAlloc x0)⟩) (fun x0 => ⟨wAlloc (aBox x0)⟩) (fun x0 x1 x2 x3 => ⟨wAlloc (aBslice x0 x1 x2 x3)⟩) (fun x0 x1 x2 x3 => ⟨wAlloc (aMslice x0 x1 x2 x3)⟩) ⟨wAlloc aMmap⟩ (fun x0 x1 x2 => ⟨wStore x0 x1 x2⟩) (fun x0 x1 => ⟨wCall x0 x1⟩) (fun x0 x1 => ⟨wCallv x0 x1⟩) (fun x0 x1 x2 x3 => ⟨wAppend x0 x1 x2 x3⟩) (fun x0 x1 x2 x3 x4 => ⟨wAppendZ x0 x1 x2 x3 x4⟩) (fun x0 x1 x2 => ⟨wCopy x0 x1 x2⟩) (fun x0 x1 x2 x3 => ⟨wMupd x0 x1 x2 x3⟩) (fun x0 x1 x2 => ⟨wMdel x0 x1 x2⟩) (fun x0 => ⟨wBytes x0⟩) (fun x0 => ⟨wMark x0⟩) (fun x0 => ⟨wRange x0⟩) (fun x0 => ⟨wNext x0⟩) (fun x0 => ⟨wEntry x0⟩) ⟨wNone⟩ op
structure BoxP where
  f : Ev → VM → Option Value
noncomputable def boxP (has : Nat → Bool) (op : AOp) : BoxP := AOp.rec (motive := fun _ => BoxP) (fun x0 => ⟨oMv x0⟩) (fun x0 => ⟨oNum x0⟩) (fun x0 x1 x2 => ⟨oPick x0 x1 x2⟩) (fun x0 x1 => ⟨oLoad x0 x1⟩) (fun x0 => ⟨oNilc x0⟩) (fun x0 x1 x2 => ⟨oBin x0 x1 x2⟩) (fun x0 x1 x2 x3 => ⟨oRest (.eqv x0 x1 x2 x3)⟩) (fun x0 x1 x2 x3 => ⟨oRest (.eqa x0 x1 x2 x3)⟩) (fun x0 x1 => ⟨oRest (.un x0 x1)⟩) (fun x0 x1 => ⟨oConv x0 x1⟩) (fun x0 => ⟨oStrOf x0⟩) (fun x0 => ⟨oRest (.strId x0)⟩) (fun x0 x1 => ⟨oFaddr x0 x1⟩) (fun x0 x1 x2 => ⟨oField x0 x1 x2⟩) (fun x0 x1 x2 x3 => ⟨oIaddrA x0 x1 x2 x3⟩) (fun x0 x1 x2 => ⟨oIaddrS x0 x1 x2⟩) (fun x0 x1 x2 x3 x4 => ⟨oRest (.idxA x0 x1 x2 x3 x4)⟩) (fun x0 x1 => ⟨oRest (.idxS x0 x1)⟩) (fun x0 x1 => ⟨oExt x0 x1⟩) (fun x0 => ⟨oLenS x0⟩) (fun x0 => ⟨oRest (.lenStr x0)⟩) (fun x0 => ⟨oCap x0⟩) (fun x0 x1 => ⟨oRest (.mn x0 x1)⟩) (fun x0 x1 => ⟨oRest (.mx x0 x1)⟩) (fun x0 x1 x2 => ⟨oRest (.slStr x0 x1 x2)⟩) (fun x0 x1 x2 x3 x4 => ⟨oSl x0 x1 x2 x3 x4⟩) (fun x0 x1 x2 x3 x4 x5 => ⟨oSlArr x0 x1 x2 x3 x4 x5⟩) (fun x0 x1 => ⟨oArrOf x0 x1⟩) (fun x0 x1 x2 => ⟨oFn has x0 x1 x2⟩) (fun x0 x1 => ⟨oBuild x0 x1⟩) (fun x0 x1 => ⟨oRest (.prim x0 x1)⟩) (fun x0 x1 x2 x3 x4 => ⟨oLook x0 x1 x2 x3 x4⟩) (fun x0 => ⟨oLenM x0⟩) (fun _ => ⟨oBad⟩) (fun _ => ⟨oBad⟩) (fun _ _ _ _ => ⟨oBad⟩) (fun _ _ _ _ => ⟨oBad⟩) ⟨oBad⟩ (fun _ _ _ => ⟨oBad⟩) (fun _ _ => ⟨oBad⟩) (fun _ _ => ⟨oBad⟩) (fun _ _ _ _ => ⟨oBad⟩) (fun _ _ _ _ _ => ⟨oBad⟩) (fun _ _ _ => ⟨oBad⟩) (fun _ _ _ _ => ⟨oBad⟩) (fun _ _ _ => ⟨oBad⟩) (fun _ => ⟨oBad⟩) (fun _ => ⟨oBad⟩) (fun _ => ⟨oBad⟩) (fun _ => ⟨oBad⟩) (fun _ => ⟨oBad⟩) ⟨oBad⟩ op

/-! ### code -/
abbrev TL := List (Nat × Value)
noncomputable def TL.get (t : TL) (i : Nat) : Option Value := List.rec (motive := fun _ => Option Value) none (fun p _ ih => Bool.rec (motive := fun _ => Option Value) ih (some p.2) (Nat.beq i p.1)) t
def TL.put (t : TL) (d : Option Nat) (v : Value) : TL := match d with | none => t | some d => (d, v) :: t
noncomputable def TL.keep (ks : List Nat) (t : TL) : TL := List.rec (motive := fun _ => TL) [] (fun k _ ih => Option.rec (motive := fun _ => TL) ih (fun v => (k, v) :: ih) (TL.get t k)) ks
noncomputable def oevE (has : Nat → Bool) (t : TL) (x : Opd) : Option Value := match x with | .t i => TL.get t i | .c v => Bool.rec (motive := fun _ => Option Value) none (some v) (constOk v) | .f n => bif has n then some (.func (.func n) #[] #[]) else none

def sameV0 : Value → Value → Bool
  | .int k n, .int k' n' => decide (k = k') && decide (n = n')
  | .bool a, .bool b => a == b
  | .string a, .string b => a.data.toList == b.data.toList
  | .pointer a, .pointer b => decide (a = b)
  | .slice a n c, .slice b n' c' => decide (a = b) && (Nat.beq n n' && (Nat.beq c c' && (a.isNone || Nat.blt 0 n)))
  | .map a, .map b => decide (a = b)
  | _, _ => false
def sameL : List Value → List Value → Bool
  | [], [] => true
  | a :: as, b :: bs => sameV0 a b && sameL as bs
  | _, _ => false
def sameV : Value → Value → Bool
  | .agg a, .agg b => sameL a.toList b.toList
  | .tuple a, .tuple b => sameL a.toList b.toList
  | a, b => sameV0 a b
/-- Does what it tells hang on memory? -/
def memOp (op : AOp) : Bool :=
  match op with
  | .load _ _ => true
  | .strOf _ => true
  | .lookup _ _ _ _ _ => true
  | .lenM _ => true
  | _ => false
noncomputable def backOk (has : Nat → Bool) (ρ : Ev) (op : AOp) (v : Value) (back : Nat) (hist : List VM) : Bool :=
  !memOp op || (hist.take back).all fun g => match (boxP has op).f ρ g with | some u => sameV u v | none => false

abbrev KO := TL → VM → Option (TL × VM)
noncomputable def goOps (has : Nat → Bool) (call : CallE) (o : AOper) (ih : KO) (t : TL) (m : VM) : Option (TL × VM) :=
  match (boxW has o.op).f call (oevE has t) m with
  | some (v, m) => ih (TL.put t o.dst v) m
  | none => none
noncomputable def oneOps (has : Nat → Bool) (call : CallE) (o : AOper) (ih : KO) (t : TL) (m : VM) : Option (TL × VM) :=
  match o.guard with
  | none => goOps has call o ih t m
  | some (g, want) =>
    match TL.get t g with
    | some (.bool b) => bif b == want then goOps has call o ih t m else ih (TL.put t o.dst undef) m
    | some (.tuple _) => ih (TL.put t o.dst undef) m
    | _ => none
def endOps : KO := fun t m => some (t, m)
noncomputable def evOps (has : Nat → Bool) (call : CallE) (os : List AOper) : KO := List.rec (motive := fun _ => KO) endOps (fun o _ ih => oneOps has call o ih) os

abbrev KD := TL → VM → VM → List VM → Option (TL × VM)
noncomputable def goDE (has : Nat → Bool) (call : CallE) (o : DOper) (ih : KD) (t : TL) (m mb : VM) (hist : List VM) : Option (TL × VM) :=
  bif o.op.isW then (match (boxW has o.op).f call (oevE has t) m with | some (v, m) => ih (TL.put t o.dst v) m m (mb :: hist) | none => none)
  else bif (o.op.isA || o.op.isM) then (match (boxW has o.op).f call (oevE has t) m with | some (v, m) => ih (TL.put t o.dst v) m mb hist | none => none)
  else (match (boxP has o.op).f (oevE has t) mb with | some v => bif backOk has (oevE has t) o.op v o.back hist then ih (TL.put t o.dst v) m mb hist else none | none => none)
noncomputable def oneDE (has : Nat → Bool) (call : CallE) (o : DOper) (ih : KD) (t : TL) (m mb : VM) (hist : List VM) : Option (TL × VM) :=
  match o.guard with
  | none => goDE has call o ih t m mb hist
  | some (g, want) =>
    match TL.get t g with
    | some (.bool b) => bif b == want then goDE has call o ih t m mb hist else ih (TL.put t o.dst undef) m mb (bif o.op.isW then mb :: hist else hist)
    | some (.tuple _) => ih (TL.put t o.dst undef) m mb (bif o.op.isW then mb :: hist else hist)
    | _ => none
def endDE : KD := fun t m _ _ => some (t, m)
noncomputable def evD (has : Nat → Bool) (call : CallE) (os : List DOper) : KD := List.rec (motive := fun _ => KD) endDE (fun o _ ih => oneDE has call o ih) os

abbrev KA := TL → VM → Option (AExit × TL × VM)
noncomputable def aSkip : KA := fun t m => some (.normal, t, m)
noncomputable def aOps (has : Nat → Bool) (call : CallE) (os : List AOper) (keep : List Nat) : KA := fun t m => match evOps has call os t m with | some (t, m) => some (.normal, TL.keep keep t, m) | none => none
noncomputable def aDops (has : Nat → Bool) (call : CallE) (os : List DOper) (keep : List Nat) : KA := fun t m => match evD has call os t m m [] with | some (t, m) => some (.normal, TL.keep keep t, m) | none => none
def thenE (x : Option (AExit × TL × VM)) (b : KA) : Option (AExit × TL × VM) :=
  match x with
  | none => none
  | some (e, t, m) => match e with | .normal => b t m | .exit i => some (.exit i, t, m) | .ret => some (.ret, t, m)
def aSeq (a b : KA) : KA := fun t m => thenE (a t m) b
noncomputable def aCond (has : Nat → Bool) (c : Opd) (a b : KA) : KA := fun t m => match oevE has t c with | some (.bool true) => a t m | some (.bool false) => b t m | _ => none
def leaveE (id : Nat) (x : Option (AExit × TL × VM)) : Option (AExit × TL × VM) :=
  match x with
  | none => none
  | some (e, t, m) => match e with | .normal => some (.normal, t, m) | .exit i => bif Nat.beq i id then some (.normal, t, m) else some (.exit i, t, m) | .ret => some (.ret, t, m)
def aBlock (id : Nat) (a : KA) : KA := fun t m => leaveE id (a t m)
def aExit (id : Nat) : KA := fun t m => some (.exit id, t, m)
def aRet : KA := fun t m => some (.ret, t, m)
def aBad : KA := fun _ _ => none
def aRound (body ih : KA) : KA := fun t m => thenE (body t m) ih
noncomputable def aLoop (lf : Nat) (body : KA) : KA := Nat.rec (motive := fun _ => KA) aBad (fun _ ih => aRound body ih) lf
noncomputable def evA (has : Nat → Bool) (call : CallE) (lf : Nat) (c : ACode) : KA :=
  ACode.rec (motive := fun _ => KA) aSkip (fun os keep => aOps has call os keep) (fun os keep => aDops has call os keep) (fun _ _ a b => aSeq a b) (fun c _ _ a b => aCond has c a b) (fun id _ a => aBlock id a) (fun _ a => aLoop lf a) (fun _ a => a) (fun id => aExit id) aRet aBad c

noncomputable def retE : List ARes → TL → VM → Option (List Value)
  | [], _, _ => some []
  | .tmp i :: r, t, m =>
    match TL.get t i, retE r t m with
    | some v, some vs => bif noTup v then some (v :: vs) else none
    | _, _ => none
  | .cell i k :: r, t, m =>
    match TL.get t i, retE r t m with
    | some (.pointer (some p)), some vs => (readE m p k).map (· :: vs)
    | _, _ => none
noncomputable def backE (rs : List ARes) (x : Option (AExit × TL × VM)) : RV :=
  match x with
  | none => none
  | some (e, t, m) =>
    match e with
    | .exit _ => none
    | _ => match retE rs t m with | some vs => some (retV vs, m) | none => none
noncomputable def bodyE (has : Nat → Bool) (call : CallE) (lf : Nat) (x : Option (Hint × AFunc)) (args : List Value) (m : VM) : RV :=
  match x with
  | none => none
  | some (_, af) => bif Nat.ble args.length af.nt then backE af.results (evA has call lf af.body (z6v 0 args) m) else none
def noCall : CallE := fun _ _ _ => none
/-- What is known of some functions already. -/
abbrev Hooks := Nat → Option (List Value → VM → RV)
noncomputable def hookE (hk : Option (List Value → VM → RV)) (d : List Value → VM → RV) : List Value → VM → RV := match hk with | some f => f | none => d
noncomputable def evF (tab : Nat → Option (Hint × AFunc)) (hk : Hooks) (lf d : Nat) : CallE :=
  Nat.rec (motive := fun _ => CallE) noCall (fun _ ih n => hookE (hk n) (bodyE (fun k => (tab k).isSome) ih lf (tab n))) d
def isTrue : RV → Bool
  | some (.bool true, _) => true
  | _ => false
end Go.Bb
/- What is reckoned with numbers of one's own for blocks is what holds: how values and memory stand to one another. -/
namespace Go.Bb
set_option linter.unusedVariables false
set_option linter.unusedSimpArgs false

/-- What stands for a block: its number, the first cell, how many cells it has, the element's size if it may grow (0: it may not). -/
structure Rm where
  b : Nat
  sh : Nat
  sz : Nat
  es : Nat
abbrev Rr := Nat → Option Rm
def Rr.le (r r' : Rr) : Prop := ∀ b k, r b = some k → r' b = some k
theorem Rr.le_refl (r : Rr) : r.le r := fun _ _ h => h
theorem Rr.le_trans {a b c : Rr} (h : a.le b) (h' : b.le c) : a.le c := fun x k hx => h' x k (h x k hx)

inductive VRb (r : Rr) : Value → Value → Prop
  | plain {v : Value} (h : plain v = true) : VRb r v v
  | ptr {a : Addr} {k : Rm} (hs : a.spot = none) (hk : r a.block = some k) : VRb r (.pointer (some a)) (.pointer (some ⟨k.b, a.off + k.sh, none⟩))
  | slice {a : Addr} {k : Rm} {n c c' o : Nat} (hs : a.spot = none) (hk : r a.block = some k) (hn : n ≤ c') (h0 : k.es = 0 → c' = c ∧ o = a.off + k.sh)
      (h1 : k.es ≠ 0 → a.off + k.sh + c' * k.es = k.sz ∧ (c' ≠ 0 → o = a.off + k.sh)) : VRb r (.slice (some a) n c) (.slice (some ⟨k.b, o, none⟩) n c')
  | map {b : Nat} {k : Rm} (hk : r b = some k) : VRb r (.map (some b)) (.map (some k.b))

inductive All2 {α β : Type} (R : α → β → Prop) : List α → List β → Prop
  | nil : All2 R [] []
  | cons {a b as bs} (h : R a b) (t : All2 R as bs) : All2 R (a :: as) (b :: bs)

inductive VR0 (fid : Nat → Option FuncId) (r : Rr) : Value → Value → Prop
  | base {v v' : Value} (h : VRb r v v') : VR0 fid r v v'
  | func {n : Nat} {g : FuncId} {a a' c c' : Array Value} (hg : fid n = some g) (ha : All2 (VRb r) a.toList a'.toList) (hc : All2 (VRb r) c.toList c'.toList) :
      VR0 fid r (.func (.func n) a c) (.func (.func g) a' c')

inductive VR1 (fid : Nat → Option FuncId) (r : Rr) : Value → Value → Prop
  | one {v v' : Value} (h : VR0 fid r v v') : VR1 fid r v v'
  | agg {a a' : Array Value} (h : All2 (VR0 fid r) a.toList a'.toList) : VR1 fid r (.agg a) (.agg a')

inductive VR (fid : Nat → Option FuncId) (r : Rr) : Value → Value → Prop
  | one {v v' : Value} (h : VR1 fid r v v') : VR fid r v v'
  | tup {a a' : Array Value} (h : All2 (VR1 fid r) a.toList a'.toList) : VR fid r (.tuple a) (.tuple a')

theorem All2.mono {α β : Type} {R S : α → β → Prop} (h : ∀ a b, R a b → S a b) : ∀ {l : List α} {l' : List β}, All2 R l l' → All2 S l l'
  | _, _, .nil => .nil
  | _, _, .cons x t => .cons (h _ _ x) (t.mono h)
theorem All2.length {α β : Type} {R : α → β → Prop} : ∀ {l : List α} {l' : List β}, All2 R l l' → l.length = l'.length
  | _, _, .nil => rfl
  | _, _, .cons _ t => by simp [t.length]
theorem All2.get {α β : Type} {R : α → β → Prop} : ∀ {l : List α} {l' : List β}, All2 R l l' → ∀ {i : Nat} {a : α}, l[i]? = some a → ∃ b, l'[i]? = some b ∧ R a b
  | _, _, .nil, i, a, h => by simp at h
  | _, _, .cons x t, 0, a, h => by simp at h; subst h; exact ⟨_, by simp, x⟩
  | _, _, .cons x t, i + 1, a, h => by simp at h; obtain ⟨b, h1, h2⟩ := t.get h; exact ⟨b, by simpa using h1, h2⟩
theorem All2.drop {α β : Type} {R : α → β → Prop} : ∀ {l : List α} {l' : List β} (n : Nat), All2 R l l' → All2 R (l.drop n) (l'.drop n)
  | _, _, 0, h => by simpa using h
  | _, _, n + 1, .nil => by simp; exact .nil
  | _, _, n + 1, .cons x t => by simpa using t.drop n
theorem All2.take {α β : Type} {R : α → β → Prop} : ∀ {l : List α} {l' : List β} (n : Nat), All2 R l l' → All2 R (l.take n) (l'.take n)
  | _, _, 0, h => by simp; exact .nil
  | _, _, n + 1, .nil => by simp; exact .nil
  | _, _, n + 1, .cons x t => by simp; exact .cons x (t.take n)
theorem All2.append {α β : Type} {R : α → β → Prop} : ∀ {l : List α} {l' : List β} {m : List α} {m' : List β}, All2 R l l' → All2 R m m' → All2 R (l ++ m) (l' ++ m')
  | _, _, _, _, .nil, h => h
  | _, _, _, _, .cons x t, h => .cons x (t.append h)
theorem All2.refl {α : Type} {R : α → α → Prop} : ∀ {l : List α}, (∀ a ∈ l, R a a) → All2 R l l
  | [], _ => .nil
  | a :: l, h => .cons (h a (by simp)) (All2.refl fun b hb => h b (by simp [hb]))

theorem VRb.mono {r r' : Rr} (h : r.le r') {v v' : Value} : VRb r v v' → VRb r' v v'
  | .plain p => .plain p
  | .ptr hs hk => .ptr hs (h _ _ hk)
  | .slice hs hk hn h0 h1 => .slice hs (h _ _ hk) hn h0 h1
  | .map hk => .map (h _ _ hk)
theorem VR0.mono {fid : Nat → Option FuncId} {r r' : Rr} (h : r.le r') {v v' : Value} : VR0 fid r v v' → VR0 fid r' v v'
  | .base p => .base (p.mono h)
  | .func hg ha hc => .func hg (ha.mono fun _ _ x => x.mono h) (hc.mono fun _ _ x => x.mono h)
theorem VR1.mono {fid : Nat → Option FuncId} {r r' : Rr} (h : r.le r') {v v' : Value} : VR1 fid r v v' → VR1 fid r' v v'
  | .one p => .one (p.mono h)
  | .agg p => .agg (p.mono fun _ _ x => x.mono h)
theorem VR.mono {fid : Nat → Option FuncId} {r r' : Rr} (h : r.le r') {v v' : Value} : VR fid r v v' → VR fid r' v v'
  | .one p => .one (p.mono h)
  | .tup p => .tup (p.mono fun _ _ x => x.mono h)

theorem VR.plain {fid : Nat → Option FuncId} {r : Rr} {v : Value} (h : plain v = true) : VR fid r v v := .one (.one (.base (.plain h)))
theorem VR.int {fid : Nat → Option FuncId} {r : Rr} {k : IntKind} {n : Int} : VR fid r (.int k n) (.int k n) := .plain rfl
theorem VR.bool {fid : Nat → Option FuncId} {r : Rr} {b : Bool} : VR fid r (.bool b) (.bool b) := .plain rfl

section
variable {fid : Nat → Option FuncId} {r : Rr} {v' : Value}
theorem VR.of_int {k : IntKind} {n : Int} (h : VR fid r (.int k n) v') : v' = .int k n := by
  cases h with | one h => cases h with | one h => cases h with | base h => cases h; rfl
theorem VR.of_bool {b : Bool} (h : VR fid r (.bool b) v') : v' = .bool b := by
  cases h with | one h => cases h with | one h => cases h with | base h => cases h; rfl
theorem VR.of_tuple {a : Array Value} (h : VR fid r (.tuple a) v') : ∃ a', v' = .tuple a' := by
  cases h with
  | one h => cases h with | one h => cases h with | base h => cases h; exact ⟨_, rfl⟩
  | tup h => exact ⟨_, rfl⟩
theorem VR.of_str {b : ByteArray} (h : VR fid r (.string b) v') : v' = .string b := by
  cases h with | one h => cases h with | one h => cases h with | base h => cases h; rfl
theorem VR.of_ptr0 (h : VR fid r (.pointer none) v') : v' = .pointer none := by
  cases h with | one h => cases h with | one h => cases h with | base h => cases h; rfl
theorem VR.of_ptr {a : Addr} (h : VR fid r (.pointer (some a)) v') : ∃ k, a.spot = none ∧ r a.block = some k ∧ v' = .pointer (some ⟨k.b, a.off + k.sh, none⟩) := by
  cases h with | one h => cases h with | one h => cases h with | base h =>
    cases h with
    | plain p => cases p
    | ptr hs hk => exact ⟨_, hs, hk, rfl⟩
theorem VR.of_sl0 {n c : Nat} (h : VR fid r (.slice none n c) v') : v' = .slice none n c := by
  cases h with | one h => cases h with | one h => cases h with | base h => cases h; rfl
theorem VR.of_sl {a : Addr} {n c : Nat} (h : VR fid r (.slice (some a) n c) v') : ∃ k c' o, a.spot = none ∧ r a.block = some k ∧ v' = .slice (some ⟨k.b, o, none⟩) n c' ∧ n ≤ c' ∧ (k.es = 0 → c' = c ∧ o = a.off + k.sh) ∧
    (k.es ≠ 0 → a.off + k.sh + c' * k.es = k.sz ∧ (c' ≠ 0 → o = a.off + k.sh)) := by
  cases h with | one h => cases h with | one h => cases h with | base h =>
    cases h with
    | plain p => cases p
    | slice hs hk hn h0 h1 => exact ⟨_, _, _, hs, hk, rfl, hn, h0, h1⟩
theorem VR.of_map0 (h : VR fid r (.map none) v') : v' = .map none := by
  cases h with | one h => cases h with | one h => cases h with | base h => cases h; rfl
theorem VR.of_map {b : Nat} (h : VR fid r (.map (some b)) v') : ∃ k, r b = some k ∧ v' = .map (some k.b) := by
  cases h with | one h => cases h with | one h => cases h with | base h =>
    cases h with
    | plain p => cases p
    | map hk => exact ⟨_, hk, rfl⟩
theorem VR.of_fn {f : Fn} {a c : Array Value} (h : VR fid r (.func f a c) v') : ∃ n g a' c', f = .func n ∧ fid n = some g ∧ v' = .func (.func g) a' c' ∧ All2 (VRb r) a.toList a'.toList ∧ All2 (VRb r) c.toList c'.toList := by
  cases h with | one h => cases h with | one h => cases h with
    | base h => cases h with | plain p => cases p
    | func hg ha hc => exact ⟨_, _, _, _, rfl, hg, rfl, ha, hc⟩
theorem VR.of_agg {a : Array Value} (h : VR fid r (.agg a) v') : ∃ a', v' = .agg a' ∧ All2 (VR0 fid r) a.toList a'.toList := by
  cases h with | one h => cases h with
    | one h => cases h with | base h => cases h with | plain p => cases p
    | agg h => exact ⟨_, rfl, h⟩
theorem VR.of_tup {a : Array Value} (h : VR fid r (.tuple a) v') : ∃ a', v' = .tuple a' ∧ All2 (VR1 fid r) a.toList a'.toList := by
  cases h with
  | one h => cases h with | one h => cases h with | base h => cases h with | plain p => cases p
  | tup h => exact ⟨_, rfl, h⟩
end

/-! ### looking at a value -/
theorem vInt_some {v : Value} {x : IntE} (h : vInt v = some x) : v = .int x.k x.n := by cases v <;> simp [vInt] at h; subst h; rfl
theorem vBool_some {v : Value} {x : Bool} (h : vBool v = some x) : v = .bool x := by cases v <;> simp [vBool] at h; subst h; rfl
theorem vPtr_some {v : Value} {x : Option Addr} (h : vPtr v = some x) : v = .pointer x := by cases v <;> simp [vPtr] at h; subst h; rfl
theorem vSl_some {v : Value} {x : SlE} (h : vSl v = some x) : v = .slice x.a x.n x.c := by cases v <;> simp [vSl] at h; subst h; rfl
theorem vMap_some {v : Value} {x : Option Nat} (h : vMap v = some x) : v = .map x := by cases v <;> simp [vMap] at h; subst h; rfl
theorem vFn_some {v : Value} {x : FnE} (h : vFn v = some x) : v = .func x.f x.a x.b := by cases v <;> simp [vFn] at h; subst h; rfl
theorem vAgg_some {v : Value} {x : Array Value} (h : vAgg v = some x) : v = .agg x := by cases v <;> simp [vAgg] at h; subst h; rfl
theorem vTup_some {v : Value} {x : Array Value} (h : vTup v = some x) : v = .tuple x := by cases v <;> simp [vTup] at h; subst h; rfl
end Go.Bb
/- Reckoning: numbers. -/
namespace Go.Bb
set_option linter.unusedVariables false
set_option linter.unusedSimpArgs false

theorem fNat_eq {α : Type} (n : Nat) (K : Nat → α) : fNat n K = K n := by cases n <;> rfl
theorem fInt_eq {α : Type} (n : Int) (K : Int → α) : fInt n K = K n := by cases n <;> simp [fInt, fNat_eq]
theorem mkInt_eq (k : IntKind) (n : Int) : mkInt k n = some (.int k n) := by simp [mkInt, fInt_eq]
theorem mkBool_eq (b : Bool) : mkBool b = some (.bool b) := by cases b <;> rfl
theorem mkPtr_eq (b o : Nat) : mkPtr b o = some (.pointer (some ⟨b, o, none⟩)) := by simp [mkPtr, fNat_eq]
theorem mkSl_some {a : Addr} {n c : Nat} {v : Value} (h : mkSl a n c = some v) : a.spot = none ∧ v = .slice (some a) n c := by
  obtain ⟨b, o, s⟩ := a
  cases s with
  | none => simp [mkSl, fNat_eq] at h; exact ⟨rfl, h.symm⟩
  | some s => simp [mkSl] at h

theorem wrap_ofNat_u {k : IntKind} (hs : k.signed = false) (n : Nat) : k.wrap (Int.ofNat n) = Int.ofNat (n % 2 ^ k.bits) := by
  unfold IntKind.wrap
  simp only [hs, Bool.false_and, Bool.false_eq_true, if_false]
  simp
theorem wrapE_eq (k : IntKind) (n : Int) : wrapE k n = k.wrap n := by
  cases n with
  | negSucc m => rfl
  | ofNat n =>
    cases k <;> simp only [wrapE]
    case i64 =>
      cases h : Nat.blt n 9223372036854775808 with
      | false => rfl
      | true =>
        have h' : n < 9223372036854775808 := by simp [Nat.blt] at h; omega
        simp only [cond_true]
        unfold IntKind.wrap
        simp only [IntKind.bits, IntKind.signed]
        have e : (Int.ofNat n) % (2 ^ 64 : Int) = Int.ofNat n := Int.emod_eq_of_lt (by simp) (by simp; omega)
        simp only [e]
        rw [if_neg]
        simp; omega
    all_goals (rw [wrap_ofNat_u rfl]; rfl)

theorem ltE_eq (a b : Int) : ltE a b = decide (a < b) := by
  cases a <;> cases b <;> simp only [ltE] <;> rw [Bool.eq_iff_iff] <;> simp [Nat.blt] <;> omega
theorem leE_eq (a b : Int) : leE a b = decide (a ≤ b) := by
  cases a <;> cases b <;> simp only [leE] <;> rw [Bool.eq_iff_iff] <;> simp [Nat.ble] <;> omega
theorem eqE_eq (a b : Int) : eqE a b = (a == b) := by
  cases a <;> cases b <;> simp only [eqE] <;> rw [Bool.eq_iff_iff] <;> simp <;> omega
theorem kEq_eq (k k' : IntKind) : kEq k k' = decide (k = k') := by cases k <;> cases k' <;> rfl

theorem bits_ofNat (w : Nat) (a : Nat) : (BitVec.ofInt w (Int.ofNat a)).toNat = a % 2 ^ w := by
  simp [BitVec.toNat_ofInt]

theorem bitsE_some {f : Nat → Nat → Nat} {op : BinOp} {k : IntKind} {a b : Int} {v : Value}
    (hop : ∀ (k : IntKind) (a b : Nat), k.signed = false → binV op (.int k (.ofNat a)) (.int k (.ofNat b)) = some (.int k (.ofNat (f (a % 2 ^ k.bits) (b % 2 ^ k.bits))))) (h : bitsE f op k a b = some v) : binV op (.int k a) (.int k b) = some v := by
  unfold bitsE at h
  split at h
  · rename_i a' b'
    split at h
    · rw [mkInt_eq] at h; rw [hop _ _ _ rfl]; exact h
    · rw [mkInt_eq] at h; rw [hop _ _ _ rfl]; exact h
    · rw [mkInt_eq] at h; rw [hop _ _ _ rfl]; exact h
    · exact h
  · exact h

theorem land_u (k : IntKind) (a b : Nat) (hs : k.signed = false) : binV .and (.int k (.ofNat a)) (.int k (.ofNat b)) = some (.int k (.ofNat (Nat.land (a % 2 ^ k.bits) (b % 2 ^ k.bits)))) := by
  simp only [binV, if_true, Option.some.injEq, Value.int.injEq, true_and, BitVec.toNat_and, bits_ofNat]
  rw [show ((Nat.land (a % 2 ^ k.bits) (b % 2 ^ k.bits) : Nat)) = (a % 2 ^ k.bits) &&& (b % 2 ^ k.bits) from rfl]
  rw [show (((a % 2 ^ k.bits &&& b % 2 ^ k.bits : Nat)) : Int) = Int.ofNat (a % 2 ^ k.bits &&& b % 2 ^ k.bits) from rfl, wrap_ofNat_u hs]
  congr 1
  exact Nat.mod_eq_of_lt (Nat.and_lt_two_pow _ (Nat.mod_lt _ (Nat.two_pow_pos _)))
theorem lor_u (k : IntKind) (a b : Nat) (hs : k.signed = false) : binV .or (.int k (.ofNat a)) (.int k (.ofNat b)) = some (.int k (.ofNat (Nat.lor (a % 2 ^ k.bits) (b % 2 ^ k.bits)))) := by
  simp only [binV, if_true, Option.some.injEq, Value.int.injEq, true_and, BitVec.toNat_or, bits_ofNat]
  rw [show (((a % 2 ^ k.bits ||| b % 2 ^ k.bits : Nat)) : Int) = Int.ofNat (a % 2 ^ k.bits ||| b % 2 ^ k.bits) from rfl, wrap_ofNat_u hs]
  congr 1
  exact Nat.mod_eq_of_lt (Nat.or_lt_two_pow (Nat.mod_lt _ (Nat.two_pow_pos _)) (Nat.mod_lt _ (Nat.two_pow_pos _)))
theorem lxor_u (k : IntKind) (a b : Nat) (hs : k.signed = false) : binV .xor (.int k (.ofNat a)) (.int k (.ofNat b)) = some (.int k (.ofNat (Nat.xor (a % 2 ^ k.bits) (b % 2 ^ k.bits)))) := by
  simp only [binV, if_true, Option.some.injEq, Value.int.injEq, true_and, BitVec.toNat_xor, bits_ofNat]
  rw [show (((a % 2 ^ k.bits ^^^ b % 2 ^ k.bits : Nat)) : Int) = Int.ofNat (a % 2 ^ k.bits ^^^ b % 2 ^ k.bits) from rfl, wrap_ofNat_u hs]
  congr 1
  exact Nat.mod_eq_of_lt (Nat.xor_lt_two_pow (Nat.mod_lt _ (Nat.two_pow_pos _)) (Nat.mod_lt _ (Nat.two_pow_pos _)))

theorem binV_plain {op : BinOp} {x y v : Value} (h : binV op x y = some v) : plain x = true ∧ plain y = true ∧ plain v = true := by
  unfold binV at h
  split at h <;> first
    | (simp at h; done)
    | (split at h <;> first | (simp at h; done) | (split at h <;> first | (simp at h; done) | (simp at h; subst h; exact ⟨rfl, rfl, rfl⟩)) | (simp at h; subst h; exact ⟨rfl, rfl, rfl⟩))
    | (simp at h; subst h; exact ⟨rfl, rfl, rfl⟩)

theorem binE_some {op : BinOp} {x y v : Value} (h : binE op x y = some v) : binV op x y = some v := by
  unfold binE at h
  split at h
  · rename_i k a k' b hx hy
    have hx := vInt_some hx
    have hy := vInt_some hy
    simp only at hx hy
    subst hx; subst hy
    by_cases hk : k = k'
    · subst hk
      have e : (bif (boxI op).sh || kEq k k then (boxI op).f k a b else none) = (boxI op).f k a b := by simp [kEq_eq]
      rw [e] at h
      cases op <;> simp only [boxI] at h
      case and => exact bitsE_some land_u h
      case or => exact bitsE_some lor_u h
      case xor => exact bitsE_some lxor_u h
      case shl =>
        unfold iShl at h
        split at h
        · rename_i a b
          rw [mkInt_eq, wrapE_eq] at h
          simp only [binV]
          rw [if_neg (by simp), ← h]
          rw [show Nat.shiftLeft a (min b k.bits) = a <<< (min b k.bits) from rfl, Nat.shiftLeft_eq]
          simp
        · exact h
      case shr =>
        unfold iShr at h
        split at h
        · rename_i a b
          rw [mkInt_eq] at h
          simp only [binV]
          rw [if_neg (by simp), ← h]
          rw [show Nat.shiftRight a (min b k.bits) = a >>> (min b k.bits) from rfl, Nat.shiftRight_eq_div_pow]
          simp
          exact Int.fdiv_eq_ediv_of_nonneg _ (Int.le_of_lt (Int.pow_pos (by omega)))
        · exact h
      all_goals first
        | (simp only [iAdd, iSub, iMul, iEq, iNe, iLt, iLe, iGt, iGe, mkInt_eq, mkBool_eq, wrapE_eq, ltE_eq, leE_eq, eqE_eq] at h
           simp only [binV, if_true, gt_iff_lt, ge_iff_le, bne]; exact h)
        | (unfold iOther at h
           split at h
           · rename_i hh; rw [mkInt_eq] at h; rw [hh]; exact h
           · exact h)
    · have e : kEq k k' = false := by simp [kEq_eq, hk]
      rw [e, Bool.or_false] at h
      cases op <;> simp only [boxI, cond_false, cond_true] at h <;> first | (cases h; done) | skip
      case shl =>
        unfold iShl at h
        split at h
        · rename_i a b
          rw [mkInt_eq, wrapE_eq] at h
          simp only [binV]
          rw [if_neg (by simp), ← h]
          rw [show Nat.shiftLeft a (min b k.bits) = a <<< (min b k.bits) from rfl, Nat.shiftLeft_eq]
          simp
        · exact h
      case shr =>
        unfold iShr at h
        split at h
        · rename_i a b
          rw [mkInt_eq] at h
          simp only [binV]
          rw [if_neg (by simp), ← h]
          rw [show Nat.shiftRight a (min b k.bits) = a >>> (min b k.bits) from rfl, Nat.shiftRight_eq_div_pow]
          simp
          exact Int.fdiv_eq_ediv_of_nonneg _ (Int.le_of_lt (Int.pow_pos (by omega)))
        · exact h
  · exact h
end Go.Bb
/- Reckoning: memory. -/
namespace Go.Bb
set_option linter.unusedVariables false
set_option linter.unusedSimpArgs false

theorem Tr.get_leaf (n : Nat) : Tr.get .leaf n = none := rfl
theorem brecN {α : Type} (x y : α) (n m : Nat) : (Bool.rec (motive := fun _ => α) x y (Nat.beq n m) : α) = if n = m then y else x := by
  cases e : Nat.beq n m with
  | true => rw [if_pos (Nat.eq_of_beq_eq_true e)]
  | false => rw [if_neg (fun h => by rw [h, Nat.beq_refl] at e; cases e)]
theorem Tr.get_eta (t : Tr) (n : Nat) : t.get n = if n = 0 then t.val else if n % 2 = 1 then t.left.get (n / 2) else t.right.get (n / 2 - 1) := by
  cases t with
  | leaf => simp only [Tr.get_leaf]; split <;> (try split) <;> rfl
  | node v l r =>
    have e : (Tr.node v l r).get n = Bool.rec (motive := fun _ => Option VB) (Bool.rec (motive := fun _ => Option VB) (r.get (n / 2 - 1)) (l.get (n / 2)) (Nat.beq (n % 2) 1)) v (Nat.beq n 0) := rfl
    rw [e, brecN, brecN]; rfl

theorem Tr.set_eta (f : Nat) (t : Tr) (n : Nat) (x : Option VB) : Tr.set (f + 1) t n x = if n = 0 then .node x t.left t.right else if n % 2 = 1 then .node t.val (Tr.set f t.left (n / 2) x) t.right else .node t.val t.left (Tr.set f t.right (n / 2 - 1) x) := by
  have e : Tr.set (f + 1) t n x = Bool.rec (motive := fun _ => Tr) (Bool.rec (motive := fun _ => Tr) (.node t.val t.left (Tr.set f t.right (n / 2 - 1) x)) (.node t.val (Tr.set f t.left (n / 2) x) t.right) (Nat.beq (n % 2) 1)) (.node x t.left t.right) (Nat.beq n 0) := rfl
  rw [e, brecN, brecN]

theorem Tr.get_set : ∀ (f : Nat) (t : Tr) (n m : Nat) (x : Option VB), n + 1 < 2 ^ f → (Tr.set f t n x).get m = if m = n then x else t.get m
  | 0, t, n, m, x, h => by simp at h
  | f + 1, t, n, m, x, h => by
    rw [Nat.pow_succ] at h
    rw [Tr.set_eta, Tr.get_eta t m]
    by_cases h0 : n = 0
    · subst h0
      rw [if_pos rfl, Tr.get_eta]
      simp only [Tr.val, Tr.left, Tr.right]
      by_cases hm : m = 0
      · simp [hm]
      · simp only [hm, if_false]
    · rw [if_neg h0]
      by_cases h1 : n % 2 = 1
      · rw [if_pos h1, Tr.get_eta]
        simp only [Tr.val, Tr.left, Tr.right]
        by_cases hm : m = 0
        · simp only [hm, if_true]; rw [if_neg (fun e => h0 e.symm)]
        · simp only [hm, if_false]
          by_cases hm1 : m % 2 = 1
          · simp only [hm1, if_true]
            rw [Tr.get_set f _ _ _ _ (by omega)]
            by_cases e : m = n
            · subst e; simp
            · rw [if_neg (by omega), if_neg e]
          · simp only [hm1, if_false]
            rw [if_neg (by omega)]
      · rw [if_neg h1, Tr.get_eta]
        simp only [Tr.val, Tr.left, Tr.right]
        by_cases hm : m = 0
        · simp only [hm, if_true]; rw [if_neg (fun e => h0 e.symm)]
        · simp only [hm, if_false]
          by_cases hm1 : m % 2 = 1
          · simp only [hm1, if_true]
            rw [if_neg (by omega)]
          · simp only [hm1, if_false]
            rw [Tr.get_set f _ _ _ _ (by omega)]
            by_cases e : m = n
            · subst e; simp
            · rw [if_neg (by omega), if_neg e]

theorem VM.get_set {m : VM} {b c : Nat} {x : Option VB} (h : b ≤ 1000000000) : (m.set b x).get c = if c = b then x else m.get c :=
  Tr.get_set 40 m.tr b c x (by omega)
theorem VM.get_new {m : VM} {c : Nat} {x : VB} (h : m.next ≤ 1000000000) : (m.new x).get c = if c = m.next then some x else m.get c :=
  Tr.get_set 40 m.tr m.next c (some x) (by omega)
theorem newE_some {m : VM} {x : VB} {mk : Nat → Value} {v : Value} {m' : VM} (h : newE m x mk = some (v, m')) : m.next ≤ 1000000000 ∧ v = mk m.next ∧ m' = m.new x := by
  unfold newE at h
  cases e : Nat.ble m.next 1000000000 with
  | false => rw [e] at h; cases h
  | true =>
    rw [e] at h
    simp only [Option.some.injEq, Prod.mk.injEq] at h
    exact ⟨Nat.le_of_ble_eq_true e, h.1.symm, h.2.symm⟩

/-- A map's row on both sides. -/
structure ER (fid : Nat → Option FuncId) (r : Rr) (e e' : MapEntry) : Prop where
  key : e'.key = e.key
  val : VR1 fid r e.val e'.val
  born : e'.born = e.born

inductive BR (fid : Nat → Option FuncId) (r : Rr) (k : Rm) : VB → Blk → Prop
  | cells {es : Nat} {vs pre vs' rest : List Value} (he : k.es = es) (hp : pre.length = k.sh) (hv : All2 (VR0 fid r) vs vs') (h0 : es = 0 → pre = [] ∧ rest = [] ∧ k.sz = vs.length) (hz : pre.length + vs'.length + rest.length ≤ k.sz) : BR fid r k (.cells es vs) (.own 0 (pre ++ vs' ++ rest) k.sz)
  | map {es : List MapEntry} {es' : Array MapEntry} {c : Nat} (he : All2 (ER fid r) es es'.toList) : BR fid r k (.map es c) (.obj (.map es' c))
  | iter {m since : Nat} {seen : List Nat} {c : Nat} {l : Rm} (hm : r m = some l) (h0 : k.sh = 0) : BR fid r k (.iter m since seen c) (.obj (.mapIter (some l.b) since seen.toArray c))

theorem ER.mono {fid : Nat → Option FuncId} {r r' : Rr} (h : r.le r') {e e' : MapEntry} (p : ER fid r e e') : ER fid r' e e' := ⟨p.key, p.val.mono h, p.born⟩
theorem BR.mono {fid : Nat → Option FuncId} {r r' : Rr} (h : r.le r') {k : Rm} {x : VB} {y : Blk} : BR fid r k x y → BR fid r' k x y
  | .cells he hp hv h0 hz => .cells he hp (hv.mono fun _ _ x => x.mono h) h0 hz
  | .map he => .map (he.mono fun _ _ x => x.mono h)
  | .iter hm h0 => .iter (h _ _ hm) h0

/-- Memory on both sides. -/
structure HR (fid : Nat → Option FuncId) (r : Rr) (m : VM) (h : Heap) : Prop where
  blk : ∀ b x, m.get b = some x → ∃ k y, r b = some k ∧ h k.b = some y ∧ BR fid r k x y
  inj : ∀ b c x y k l, m.get b = some x → m.get c = some y → r b = some k → r c = some l → k.b = l.b → b = c

structure HS (fid : Nat → Option FuncId) (h0 : Heap) (r : Rr) (m : VM) (h : Heap) : Prop extends HR fid r m h where
  old : ∀ b x, h0 b = some x → h b = some x
  own : ∀ b x k, m.get b = some x → r b = some k → h0 k.b = none
  fresh : ∀ b, m.next ≤ b → r b = none
  room : m.next ≤ 1000000001

theorem HR.mono {fid : Nat → Option FuncId} {r r' : Rr} {m : VM} {h : Heap} (p : HR fid r m h) (hl : r.le r') : HR fid r' m h := by
  refine ⟨fun b x hx => ?_, fun b c x y k l hx hy hk hl' e => ?_⟩
  · obtain ⟨k, y, h1, h2, h3⟩ := p.blk b x hx
    exact ⟨k, y, hl _ _ h1, h2, h3.mono hl⟩
  · obtain ⟨k', y', h1, h2, h3⟩ := p.blk b x hx
    obtain ⟨l', y'', h4, h5, h6⟩ := p.blk c y hy
    have e1 := hl _ _ h1; rw [hk] at e1; simp only [Option.some.injEq] at e1; subst e1
    have e2 := hl _ _ h4; rw [hl'] at e2; simp only [Option.some.injEq] at e2; subst e2
    exact p.inj b c x y _ _ hx hy h1 h4 e
end Go.Bb
/- Reckoning: reading and writing memory. -/
namespace Go.Bb
set_option linter.unusedVariables false
set_option linter.unusedSimpArgs false

theorem takeE_some : ∀ {l : List Value} {n : Nat} {x : List Value}, takeE l n = some x → x = l.take n ∧ n ≤ l.length
  | l, 0, x, h => by simp [takeE] at h; subst h; simp
  | [], n + 1, x, h => by simp [takeE] at h
  | v :: r, n + 1, x, h => by
    simp only [takeE, Option.map_eq_some_iff] at h
    obtain ⟨y, hy, rfl⟩ := h
    obtain ⟨rfl, h2⟩ := takeE_some hy
    simp; omega

theorem putE_nil (l : List Value) (i : Nat) : putE l i [] = some l := by cases l <;> rfl
theorem putE_none (i : Nat) (u : Value) (us : List Value) : putE [] i (u :: us) = none := rfl
theorem putE_zero (v : Value) (r : List Value) (u : Value) (us : List Value) : putE (v :: r) 0 (u :: us) = (putE r 0 us).map (u :: ·) := by
  have e : putE (v :: r) 0 (u :: us) = Option.rec (motive := fun _ => Option (List Value)) none (fun z => some (u :: z)) (putE r 0 us) := rfl
  rw [e]; cases putE r 0 us <;> rfl
theorem putE_succ (v : Value) (r : List Value) (i : Nat) (u : Value) (us : List Value) : putE (v :: r) (i + 1) (u :: us) = (putE r i (u :: us)).map (v :: ·) := by
  have e : putE (v :: r) (i + 1) (u :: us) = Option.rec (motive := fun _ => Option (List Value)) none (fun z => some (v :: z)) (putE r i (u :: us)) := rfl
  rw [e]; cases putE r i (u :: us) <;> rfl
theorem putE_some : ∀ {l : List Value} {i : Nat} {us x : List Value}, putE l i us = some x → x = l.take i ++ us ++ l.drop (i + us.length) ∧ (us ≠ [] → i + us.length ≤ l.length)
  | l, i, [], x, h => by rw [putE_nil] at h; simp only [Option.some.injEq] at h; subst h; simp
  | [], i, u :: us, x, h => by rw [putE_none] at h; cases h
  | v :: r, 0, u :: us, x, h => by
    rw [putE_zero, Option.map_eq_some_iff] at h
    obtain ⟨y, hy, rfl⟩ := h
    obtain ⟨rfl, h2⟩ := putE_some hy
    refine ⟨by simp, fun _ => ?_⟩
    cases us with
    | nil => simp
    | cons a b => have := h2 (by simp); simp at this ⊢; omega
  | v :: r, i + 1, u :: us, x, h => by
    rw [putE_succ, Option.map_eq_some_iff] at h
    obtain ⟨y, hy, rfl⟩ := h
    obtain ⟨rfl, h2⟩ := putE_some hy
    refine ⟨by rw [show i + 1 + (u :: us).length = (i + (u :: us).length) + 1 from by omega, List.drop_succ_cons]; simp, fun _ => ?_⟩
    have := h2 (by simp); simp at this ⊢; omega

section
variable {fid : Nat → Option FuncId} {r : Rr} {m : VM} {h : Heap}

theorem HR.at {p : HR fid r m h} {b : Nat} {k : Rm} {x : VB} (hk : r b = some k) (hx : m.get b = some x) : ∃ y, h k.b = some y ∧ BR fid r k x y := by
  obtain ⟨k', y, h1, h2, h3⟩ := p.blk b x hx
  rw [hk] at h1; simp only [Option.some.injEq] at h1; subst h1
  exact ⟨y, h2, h3⟩

/-- The address on the other side. -/
abbrev Rm.at (k : Rm) (a : Addr) : Addr := ⟨k.b, a.off + k.sh, none⟩

theorem cells_sim (p : HR fid r m h) {a : Addr} {n : Nat} {l : List Value} {k : Rm} (hk : r a.block = some k) (e : cellsE m a n = some l) : ∃ l', hcells h (k.at a) n = some l' ∧ All2 (VR0 fid r) l l' := by
  unfold cellsE at e
  split at e
  · cases e
  · simp only [Option.some.injEq] at e; subst e; exact ⟨[], rfl, .nil⟩
  · rename_i n hspot
    split at e
    · rename_i es vs hx
      obtain ⟨y, hy, hb⟩ := HR.at (p := p) hk hx
      cases hb with
      | cells he hp hv h0 hsz =>
        rename_i pre vs' rest
        obtain ⟨rfl, hle⟩ := takeE_some e
        have hl := hv.length
        simp only [List.length_drop] at hle
        have e1 : ((pre ++ vs' ++ rest).drop (a.off + k.sh - 0)).take (n + 1) = (vs'.drop a.off).take (n + 1) := by
          rw [Nat.sub_zero, ← hp, List.append_assoc, List.drop_append, List.drop_eq_nil_of_le (by omega), List.nil_append, Nat.add_sub_cancel, List.drop_append_of_le_length (by omega), List.take_append_of_le_length (by simp; omega)]
        refine ⟨(vs'.drop a.off).take (n + 1), ?_, (hv.drop a.off).take (n + 1)⟩
        simp only [hcells, hy]
        rw [if_pos (by simp; omega), e1]
    · cases e

theorem read_sim (p : HR fid r m h) {a : Addr} {kk : Option Nat} {v : Value} {k : Rm} (hk : r a.block = some k) (e : readE m a kk = some v) : ∃ v', z6m h (k.at a) kk = some v' ∧ VR1 fid r v v' := by
  unfold readE at e
  split at e
  · split at e
    · cases e
    · split at e
      · rename_i es vs hx
        obtain ⟨y, hy, hb⟩ := HR.at (p := p) hk hx
        cases hb with
        | cells he hp hv h0 hsz =>
          rename_i pre vs' rest
          obtain ⟨v', hv', hvr⟩ := hv.get e
          have hlt : a.off < vs'.length := by rcases Nat.lt_or_ge a.off vs'.length with g | g; exact g; rw [List.getElem?_eq_none g] at hv'; cases hv'
          refine ⟨v', ?_, .one hvr⟩
          simp only [z6m, hcell, hy]
          rw [if_pos (by omega), Nat.sub_zero, ← hp, List.append_assoc, List.getElem?_append_right (by omega), Nat.add_sub_cancel, List.getElem?_append_left hlt]
          exact hv'
      · cases e
  · rename_i n
    rw [Option.map_eq_some_iff] at e
    obtain ⟨l, hl, rfl⟩ := e
    obtain ⟨l', h1, h2⟩ := cells_sim p hk hl
    exact ⟨.agg l'.toArray, by simp [z6m, h1], .agg (by simpa using h2)⟩

variable {h0 : Heap}

theorem HS.lt (p : HS fid h0 r m h) {b : Nat} {x : VB} (hx : m.get b = some x) : b < m.next := by
  obtain ⟨k, y, h1, _, _⟩ := p.blk b x hx
  rcases Nat.lt_or_ge b m.next with g | g
  · exact g
  · rw [p.fresh b g] at h1; cases h1

theorem HS.put (p : HS fid h0 r m h) {b : Nat} {x0 x : VB} {k : Rm} {y : Blk} (hx : m.get b = some x0) (hk : r b = some k) (hb : BR fid r k x y) : HS fid h0 r (m.set b (some x)) (h.set k.b y) := by
  have hlt := p.lt hx
  have hr := p.room
  have g := fun c => VM.get_set (m := m) (b := b) (c := c) (x := some x) (by omega)
  refine { blk := fun c z hz => ?_, inj := fun c d z w l l' hz hw hl hl' e => ?_, old := fun c z hz => ?_, own := fun c z l hz hl => ?_, fresh := p.fresh, room := p.room }
  · rw [g] at hz
    by_cases e : c = b
    · subst e
      simp only [if_true, Option.some.injEq] at hz; subst hz
      exact ⟨k, y, hk, by simp [Heap.set], hb⟩
    · rw [if_neg e] at hz
      obtain ⟨l, z', h1, h2, h3⟩ := p.blk c z hz
      refine ⟨l, z', h1, ?_, h3⟩
      simp only [Heap.set]
      rw [if_neg (fun e' => e (p.inj c b z x0 l k hz hx h1 hk e'))]
      exact h2
  · rw [g] at hz hw
    have hz' : ∃ z', m.get c = some z' := by
      by_cases e : c = b
      · subst e; exact ⟨_, hx⟩
      · rw [if_neg e] at hz; exact ⟨_, hz⟩
    have hw' : ∃ w', m.get d = some w' := by
      by_cases e : d = b
      · subst e; exact ⟨_, hx⟩
      · rw [if_neg e] at hw; exact ⟨_, hw⟩
    obtain ⟨z', hz'⟩ := hz'
    obtain ⟨w', hw'⟩ := hw'
    exact p.inj c d z' w' l l' hz' hw' hl hl' e
  · simp only [Heap.set]
    rw [if_neg (fun e => by have := p.own b x0 k hx hk; rw [← e, hz] at this; cases this)]
    exact p.old c z hz
  · rw [g] at hz
    by_cases e : c = b
    · subst e; rw [hk] at hl; simp only [Option.some.injEq] at hl; subst hl; exact p.own c x0 k hx hk
    · rw [if_neg e] at hz; exact p.own c z l hz hl

theorem HS.kill (p : HS fid h0 r m h) {b : Nat} {x0 : VB} (hx : m.get b = some x0) : HS fid h0 r (m.set b none) h := by
  have hlt := p.lt hx
  have hr := p.room
  have g := fun c => VM.get_set (m := m) (b := b) (c := c) (x := none) (by omega)
  have g' : ∀ c z, (m.set b none).get c = some z → m.get c = some z := by
    intro c z hz
    rw [g] at hz
    by_cases e : c = b
    · rw [if_pos e] at hz; cases hz
    · rw [if_neg e] at hz; exact hz
  exact { blk := fun c z hz => p.blk c z (g' c z hz), inj := fun c d z w l l' hz hw => p.inj c d z w l l' (g' c z hz) (g' d w hw), old := p.old, own := fun c z l hz => p.own c z l (g' c z hz), fresh := p.fresh, room := p.room }

/-- One block more. -/
def Rr.more (r : Rr) (n : Nat) (k : Rm) : Rr := fun c => if c = n then some k else r c
theorem Rr.le_more {r : Rr} {n : Nat} {k : Rm} (h : r n = none) : r.le (r.more n k) := by
  intro b l hl
  unfold Rr.more
  by_cases e : b = n
  · subst e; rw [h] at hl; cases hl
  · rw [if_neg e]; exact hl

theorem HS.more (p : HS fid h0 r m h) {x : VB} {k : Rm} {y : Blk} (hn : m.next ≤ 1000000000) (hd : ∀ c z l, m.get c = some z → r c = some l → l.b ≠ k.b) (hh : h0 k.b = none) (hb : BR fid (r.more m.next k) k x y) :
    HS fid h0 (r.more m.next k) (m.new x) (h.set k.b y) ∧ r.le (r.more m.next k) := by
  have hle : r.le (r.more m.next k) := Rr.le_more (p.fresh _ (Nat.le_refl _))
  have g := fun c => VM.get_new (m := m) (c := c) (x := x) hn
  have q := p.toHR.mono hle
  have hget : ∀ c, c < m.next → r.more m.next k c = r c := fun c hc => by unfold Rr.more; rw [if_neg (by omega)]
  refine ⟨{ blk := fun c z hz => ?_, inj := fun c d z w l l' hz hw hl hl' e => ?_, old := fun c z hz => ?_, own := fun c z l hz hl => ?_, fresh := fun c hc => ?_, room := ?_ }, hle⟩
  · rw [g] at hz
    by_cases e : c = m.next
    · subst e
      simp only [if_true, Option.some.injEq] at hz; subst hz
      exact ⟨k, y, by simp [Rr.more], by simp [Heap.set], hb⟩
    · rw [if_neg e] at hz
      obtain ⟨l, z', h1, h2, h3⟩ := p.blk c z hz
      refine ⟨l, z', hle _ _ h1, ?_, h3.mono hle⟩
      simp only [Heap.set]
      rw [if_neg (hd c z l hz h1)]
      exact h2
  · rw [g] at hz hw
    by_cases e1 : c = m.next
    · by_cases e2 : d = m.next
      · omega
      · rw [if_neg e2] at hw
        rw [hget d (p.lt hw)] at hl'
        subst e1
        simp only [Rr.more, if_true, Option.some.injEq] at hl; subst hl
        exact absurd e.symm (hd d w l' hw hl')
    · rw [if_neg e1] at hz
      rw [hget c (p.lt hz)] at hl
      by_cases e2 : d = m.next
      · subst e2
        simp only [Rr.more, if_true, Option.some.injEq] at hl'; subst hl'
        exact absurd e (hd c z l hz hl)
      · rw [if_neg e2] at hw
        rw [hget d (p.lt hw)] at hl'
        exact p.inj c d z w l l' hz hw hl hl' e
  · simp only [Heap.set]
    rw [if_neg (fun e => by rw [e, hh] at hz; cases hz)]
    exact p.old c z hz
  · rw [g] at hz
    by_cases e : c = m.next
    · subst e
      simp only [Rr.more, if_true, Option.some.injEq] at hl; subst hl
      exact hh
    · rw [if_neg e] at hz
      rw [hget c (p.lt hz)] at hl
      exact p.own c z l hz hl
  · have : m.next + 1 ≤ c := hc
    unfold Rr.more
    rw [if_neg (by omega)]
    exact p.fresh c (by omega)
  · show m.next + 1 ≤ 1000000001
    omega

/-- A block that is new on both sides. -/
theorem HS.alloc (p : HS fid h0 r m h) {x : VB} {k : Rm} {y : Blk} (hn : m.next ≤ 1000000000) (hf : h k.b = none) (hb : BR fid (r.more m.next k) k x y) :
    HS fid h0 (r.more m.next k) (m.new x) (h.set k.b y) ∧ r.le (r.more m.next k) := by
  refine p.more hn (fun c z l hz hl e => ?_) ?_ hb
  · obtain ⟨l', z', h1, h2, _⟩ := p.blk c z hz
    rw [hl] at h1; simp only [Option.some.injEq] at h1; subst h1
    rw [e, hf] at h2; cases h2
  · cases e : h0 k.b with
    | none => rfl
    | some z => rw [p.old _ _ e] at hf; cases hf

theorem store_sim (p : HS fid h0 r m h) {a : Addr} {us us' : List Value} {k : Rm} {m' : VM} (hk : r a.block = some k) (hu : All2 (VR0 fid r) us us') (e : storeE m a us = some m') :
    ∃ h', hstore h (k.at a) us' = some h' ∧ HS fid h0 r m' h' := by
  unfold storeE at e
  split at e
  · simp only [Option.some.injEq] at e; subst e
    cases hu
    exact ⟨h, rfl, p⟩
  · rename_i u us
    split at e
    · cases e
    · split at e
      · rename_i es vs hx
        obtain ⟨y, hy, hb⟩ := HR.at (p := p.toHR) hk hx
        cases hb with
        | cells he hp hv hz hsz =>
          rename_i pre vs' rest
          rw [Option.map_eq_some_iff] at e
          obtain ⟨x, hput, rfl⟩ := e
          obtain ⟨rfl, hle⟩ := putE_some hput
          have hle := hle (by simp)
          have hl := hv.length
          have hul := hu.length
          cases hu with
          | cons hu1 hut =>
            rename_i u' us'
            have hu : All2 (VR0 fid r) (u :: us) (u' :: us') := .cons hu1 hut
            have key : splice (pre ++ vs' ++ rest) (a.off + k.sh) (u' :: us') = pre ++ (vs'.take a.off ++ (u' :: us') ++ vs'.drop (a.off + (u' :: us').length)) ++ rest := by
              unfold splice
              rw [← hp, Nat.add_comm a.off, List.append_assoc pre, List.take_length_add_append, List.take_append_of_le_length (by omega), Nat.add_assoc, List.drop_length_add_append, List.drop_append_of_le_length (by omega)]
              simp
            refine ⟨_, ?_, p.put hx hk (.cells (pre := pre) (vs' := vs'.take a.off ++ (u' :: us') ++ vs'.drop (a.off + (u' :: us').length)) (rest := rest) he hp ?_ ?_ ?_)⟩
            · simp only [hstore, hy]
              rw [if_pos, Nat.sub_zero, key]
              simp at hle hsz ⊢
              have : us'.length = us.length := by simp at hul; omega
              omega
            · rw [hul]
              exact ((hv.take a.off).append hu).append (hv.drop _)
            · intro h00
              obtain ⟨h1, h2, h3⟩ := hz h00
              refine ⟨h1, h2, ?_⟩
              simp at hle ⊢; omega
            · simp at hle hsz hul ⊢; omega
      · cases e
end
end Go.Bb
/- Reckoning: operations that change nothing. -/
namespace Go.Bb
set_option linter.unusedVariables false
set_option linter.unusedSimpArgs false

/-- What operands tell on both sides. -/
def Sim (fid : Nat → Option FuncId) (r : Rr) (ρ ρ' : Opd → Option Value) : Prop := ∀ x v, ρ x = some v → ∃ v', ρ' x = some v' ∧ VR fid r v v'

section
variable {fid : Nat → Option FuncId} {r : Rr} {m : VM} {h : Heap} {ρ ρ' : Opd → Option Value}

theorem Sim.int (s : Sim fid r ρ ρ') {x : Opd} {k : IntKind} {n : Int} (e : ρ x = some (.int k n)) : ρ' x = some (.int k n) := by
  obtain ⟨v', h1, h2⟩ := s x _ e; rw [h2.of_int] at h1; exact h1
theorem Sim.bool (s : Sim fid r ρ ρ') {x : Opd} {b : Bool} (e : ρ x = some (.bool b)) : ρ' x = some (.bool b) := by
  obtain ⟨v', h1, h2⟩ := s x _ e; rw [h2.of_bool] at h1; exact h1
theorem Sim.str (s : Sim fid r ρ ρ') {x : Opd} {b : ByteArray} (e : ρ x = some (.string b)) : ρ' x = some (.string b) := by
  obtain ⟨v', h1, h2⟩ := s x _ e; rw [h2.of_str] at h1; exact h1
theorem VR.of_plain {v v' : Value} (h : VR fid r v v') (p : Bb.plain v = true) : v' = v := by
  cases h with
  | one h => cases h with
    | one h => cases h with
      | base h => cases h with
        | plain _ => rfl
        | ptr hs hk => cases p
        | slice hs hk hn h0 h1 => cases p
        | map hk => cases p
      | func hg ha hc => cases p
    | agg h => cases p
  | tup h => cases p
theorem Sim.plain' (s : Sim fid r ρ ρ') {x : Opd} {v : Value} (e : ρ x = some v) (p : Bb.plain v = true) : ρ' x = some v := by
  obtain ⟨v', h1, h2⟩ := s x _ e; rw [h2.of_plain p] at h1; exact h1

theorem Sim.allV (s : Sim fid r ρ ρ') : ∀ {xs : List Opd} {vs : List Value}, allV ρ xs = some vs → ∃ vs', allV ρ' xs = some vs' ∧ All2 (VR fid r) vs vs'
  | [], vs, e => by simp only [Go.Bb.allV, Option.some.injEq] at e; subst e; exact ⟨[], rfl, .nil⟩
  | x :: xs, vs, e => by
    simp only [Go.Bb.allV] at e
    split at e
    · rename_i v vs hv hvs
      simp only [Option.some.injEq] at e; subst e
      obtain ⟨v', h1, h2⟩ := s x _ hv
      obtain ⟨vs', h3, h4⟩ := s.allV hvs
      exact ⟨v' :: vs', by simp only [Go.Bb.allV, h1, h3], .cons h2 h4⟩
    · cases e

theorem bndV_sim (s : Sim fid r ρ ρ') {x : Option Opd} {d most i : Nat} (e : bndV d most (oOpt ρ x) = some i) : bndV d most (oOpt ρ' x) = some i := by
  cases x with
  | none => exact e
  | some x =>
    simp only [oOpt] at e ⊢
    unfold bndV at e
    split at e
    · rename_i hh; cases hh
    · rename_i k j hh
      simp only [Option.some.injEq] at hh
      rw [s.int hh]
      exact e
    · cases e

theorem bnds_sim (s : Sim fid r ρ ρ') {lo hi mx : Option Opd} {len cap : Nat} {q : Nat × Nat × Nat} (e : bnds len cap (oOpt ρ lo) (oOpt ρ hi) (oOpt ρ mx) = some q) : bnds len cap (oOpt ρ' lo) (oOpt ρ' hi) (oOpt ρ' mx) = some q := by
  unfold bnds at e ⊢
  split at e
  · cases e
  · rename_i m' hm
    rw [bndV_sim s hm]
    simp only
    have i1 : (oOpt ρ mx).isSome = (oOpt ρ' mx).isSome := by cases mx <;> rfl
    have i2 : (oOpt ρ hi).isNone = (oOpt ρ' hi).isNone := by cases hi <;> rfl
    rw [i1, i2] at e
    split at e
    · cases e
    · rename_i hh hhi
      have : (if ((oOpt ρ' mx).isSome && (oOpt ρ' hi).isNone) = true then none else bndV len m' (oOpt ρ' hi)) = some hh := by
        split at hhi
        · cases hhi
        · rename_i hc; rw [if_neg hc]; exact bndV_sim s hhi
      rw [this]
      simp only
      split at e
      · cases e
      · rename_i l hl
        rw [bndV_sim s hl]; exact e

theorem leaves_eq : ∀ {ks : List (Option IntKind)} {a a' : List Value}, leavesOk ks a = true → All2 (VR0 fid r) a a' → a' = a
  | [], [], _, h, .nil => rfl
  | [], _ :: _, _, h, _ => by simp [leavesOk] at h
  | _ :: _, [], _, h, _ => by simp [leavesOk] at h
  | k :: ks, v :: vs, _, h, .cons hv ht => by
    simp only [leavesOk, Bool.and_eq_true] at h
    have e1 := leaves_eq h.2 ht
    have hp : plain v = true := by
      have := h.1
      unfold leafOk at this
      split at this
      · rfl
      · rfl
      · cases this
    have e2 : _ = v := VR.of_plain (.one (.one hv)) hp
    rw [e1, e2]

theorem part_sim {cs cs' : List Value} (ha : All2 (VR0 fid r) cs cs') {off : Nat} {k : Option Nat} {v : Value} (e : z6n cs off k = some v) : ∃ v', z6n cs' off k = some v' ∧ VR fid r v v' := by
  cases k with
  | none =>
    obtain ⟨b, h1, h2⟩ := ha.get e
    exact ⟨b, h1, .one (.one h2)⟩
  | some n =>
    simp only [z6n, Option.some.injEq] at e; subst e
    exact ⟨_, rfl, .one (.agg (by simpa using (ha.drop off).take n))⟩

theorem bytesV_sim : ∀ {l l' : List Value} {bs : List UInt8}, All2 (VR0 fid r) l l' → bytesV l = some bs → bytesV l' = some bs
  | [], _, bs, .nil, h => h
  | v :: vs, _, bs, .cons hv ht, h => by
    unfold bytesV at h
    split at h
    · rename_i hh; cases hh
    · rename_i n rr hh
      simp only [List.cons.injEq] at hh
      obtain ⟨rfl, rfl⟩ := hh
      rw [VR.of_int (.one (.one hv))]
      rw [Option.map_eq_some_iff] at h
      obtain ⟨y, hy, rfl⟩ := h
      simp only [bytesV, bytesV_sim ht hy, Option.map_some]
    · cases h
end
end Go.Bb
/- Reckoning: each operation that changes nothing. -/
namespace Go.Bb
set_option linter.unusedVariables false
set_option linter.unusedSimpArgs false

section
variable {fid : Nat → Option FuncId} {r : Rr} {m : VM} {h : Heap} {ρ ρ' : Opd → Option Value} {v : Value}

theorem oMv_sim (s : Sim fid r ρ ρ') {x : Opd} (e : oMv x ρ m = some v) : ∃ v', pureV fid ρ' h (.mv x) = some v' ∧ VR fid r v v' := s x v e
theorem oNum_sim {n : Nat} (e : oNum n ρ m = some v) : ∃ v', pureV fid ρ' h (.num n) = some v' ∧ VR fid r v v' := by
  simp only [oNum, Option.some.injEq] at e; subst e; exact ⟨_, rfl, .int⟩
theorem oPick_sim (s : Sim fid r ρ ρ') {c a b : Opd} (e : oPick c a b ρ m = some v) : ∃ v', pureV fid ρ' h (.pick c a b) = some v' ∧ VR fid r v v' := by
  unfold oPick at e
  split at e
  · rename_i u hu
    split at e
    · rename_i hb
      have := s.bool (by rw [hu, vBool_some hb])
      simp only [pureV, this, if_true]; exact s _ _ e
    · rename_i hb
      have := s.bool (by rw [hu, vBool_some hb])
      simp only [pureV, this, Bool.false_eq_true, if_false]; exact s _ _ e
    · cases e
  · cases e
theorem oLoad_sim (s : Sim fid r ρ ρ') (p : HR fid r m h) {k : Option Nat} {x : Opd} (e : oLoad k x ρ m = some v) : ∃ v', pureV fid ρ' h (.load k x) = some v' ∧ VR fid r v v' := by
  unfold oLoad at e
  split at e
  · rename_i u hu
    split at e
    · rename_i a ha
      obtain ⟨u', h1, h2⟩ := s x _ hu
      rw [vPtr_some ha] at h2
      obtain ⟨kk, hs, hk, rfl⟩ := h2.of_ptr
      obtain ⟨v', h3, h4⟩ := read_sim p hk e
      exact ⟨v', by simp only [pureV, h1]; exact h3, .one h4⟩
    · cases e
  · cases e
theorem oNilc_sim (s : Sim fid r ρ ρ') {x : Opd} (e : oNilc x ρ m = some v) : ∃ v', pureV fid ρ' h (.nilc x) = some v' ∧ VR fid r v v' := by
  unfold oNilc at e
  split at e
  · rename_i u hu
    obtain ⟨u', h1, h2⟩ := s x _ hu
    split at e
    · rename_i a ha
      simp only [Option.some.injEq] at e; subst e
      have := vPtr_some ha
      subst this
      obtain ⟨kk, hs, hk, rfl⟩ := h2.of_ptr
      exact ⟨_, by simp only [pureV, h1], h2⟩
    · cases e
    · split at e
      · rename_i n a b hf
        simp only [Option.some.injEq] at e; subst e
        have := vFn_some hf
        simp only at this
        subst this
        obtain ⟨n', g, a', c', _, _, rfl, _, _⟩ := h2.of_fn
        exact ⟨_, by simp only [pureV, h1], h2⟩
      · cases e
  · cases e
theorem oBin_sim (s : Sim fid r ρ ρ') {op : BinOp} {x y : Opd} (e : oBin op x y ρ m = some v) : ∃ v', pureV fid ρ' h (.bin op x y) = some v' ∧ VR fid r v v' := by
  unfold oBin at e
  split at e
  · rename_i a b ha hb
    have e' := binE_some e
    obtain ⟨p1, p2, p3⟩ := binV_plain e'
    exact ⟨v, by simp only [pureV, s.plain' ha p1, s.plain' hb p2, e'], .plain p3⟩
  · cases e
theorem oConv_sim (s : Sim fid r ρ ρ') {k : IntKind} {x : Opd} (e : oConv k x ρ m = some v) : ∃ v', pureV fid ρ' h (.conv k x) = some v' ∧ VR fid r v v' := by
  unfold oConv at e
  split at e
  · rename_i u hu
    split at e
    · rename_i hi
      rw [mkInt_eq, wrapE_eq, Option.some.injEq] at e; subst e
      have := s.int (by rw [hu, vInt_some hi])
      exact ⟨_, by simp only [pureV, this], .int⟩
    · cases e
  · cases e
theorem oStrOf_sim (s : Sim fid r ρ ρ') (p : HR fid r m h) {x : Opd} (e : oStrOf x ρ m = some v) : ∃ v', pureV fid ρ' h (.strOf x) = some v' ∧ VR fid r v v' := by
  unfold oStrOf at e
  split at e
  · rename_i u hu
    obtain ⟨u', h1, h2⟩ := s x _ hu
    split at e
    · rename_i hs
      simp only [Option.some.injEq] at e; subst e
      rw [vSl_some hs] at h2
      rw [h2.of_sl0] at h1
      exact ⟨_, by simp only [pureV, h1], .plain rfl⟩
    · rename_i a n c hs
      rw [vSl_some hs] at h2
      obtain ⟨k, c', o, hsp, hk, rfl, hn, q0, q1⟩ := h2.of_sl
      split at e
      · rename_i l hl
        rw [Option.map_eq_some_iff] at e
        obtain ⟨bs, hbs, rfl⟩ := e
        obtain ⟨l', g1, g2⟩ := cells_sim p hk hl
        have : hcells h ⟨k.b, o, none⟩ n = some l' := by
          cases n with
          | zero =>
            have : l' = [] := by have := hcells_length g1; exact List.eq_nil_of_length_eq_zero this
            subst this; rfl
          | succ n =>
            have : o = a.off + k.sh := by
              by_cases z : k.es = 0
              · exact (q0 z).2
              · exact (q1 z).2 (by simp at hn; omega)
            rw [this]; exact g1
        exact ⟨_, by simp only [pureV, h1, this, bytesV_sim g2 hbs, Option.map_some], .plain rfl⟩
      · cases e
    · cases e
  · cases e
theorem oFaddr_sim (s : Sim fid r ρ ρ') {off : Nat} {x : Opd} (e : oFaddr off x ρ m = some v) : ∃ v', pureV fid ρ' h (.faddr off x) = some v' ∧ VR fid r v v' := by
  unfold oFaddr at e
  split at e
  · rename_i u hu
    split at e
    · rename_i b o ha
      rw [mkPtr_eq, Option.some.injEq] at e; subst e
      obtain ⟨u', h1, h2⟩ := s x _ hu
      rw [vPtr_some ha] at h2
      obtain ⟨kk, hs, hk, rfl⟩ := h2.of_ptr
      refine ⟨.pointer (some ⟨kk.b, o + kk.sh + off, none⟩), by simp only [pureV, h1, if_true], ?_⟩
      have := VRb.ptr (r := r) (a := ⟨b, o + off, none⟩) (k := kk) rfl hk
      simp only at this
      rw [show o + kk.sh + off = o + off + kk.sh from by omega]
      exact .one (.one (.base this))
    · cases e
  · cases e
theorem oField_sim (s : Sim fid r ρ ρ') {k : Option Nat} {off : Nat} {x : Opd} (e : oField k off x ρ m = some v) : ∃ v', pureV fid ρ' h (.field k off x) = some v' ∧ VR fid r v v' := by
  unfold oField at e
  split at e
  · rename_i u hu
    split at e
    · rename_i cs hc
      obtain ⟨u', h1, h2⟩ := s x _ hu
      rw [vAgg_some hc] at h2
      obtain ⟨a', rfl, ha⟩ := h2.of_agg
      obtain ⟨v', g1, g2⟩ := part_sim ha e
      exact ⟨v', by simp only [pureV, h1]; exact g1, g2⟩
    · cases e
  · cases e
theorem inE_some {j : Int} {n i : Nat} (e : inE j n = some i) : j = Int.ofNat i ∧ i < n := by
  unfold inE at e
  split at e
  · rename_i j
    cases q : Nat.blt j n with
    | false => rw [q] at e; cases e
    | true => rw [q] at e; simp only [cond_true, Option.some.injEq] at e; subst e; exact ⟨rfl, by simp [Nat.blt] at q; omega⟩
  · cases e
theorem oIaddrA_sim (s : Sim fid r ρ ρ') {n size : Nat} {x i : Opd} (e : oIaddrA n size x i ρ m = some v) : ∃ v', pureV fid ρ' h (.iaddrA n size x i) = some v' ∧ VR fid r v v' := by
  unfold oIaddrA at e
  split at e
  · rename_i u w hu hw
    split at e
    · rename_i b o k j ha hi
      split at e
      · rename_i jj hj
        obtain ⟨rfl, hlt⟩ := inE_some hj
        rw [mkPtr_eq, Option.some.injEq] at e; subst e
        obtain ⟨u', h1, h2⟩ := s x _ hu
        rw [vPtr_some ha] at h2
        obtain ⟨kk, hs, hk, rfl⟩ := h2.of_ptr
        have hi' := s.int (by rw [hw, vInt_some hi])
        refine ⟨.pointer (some ⟨kk.b, o + kk.sh + jj * size, none⟩), ?_, ?_⟩
        · simp only [pureV, h1, hi']
          rw [if_pos ⟨trivial, by simp, by simp; omega⟩]; simp
        · have := VRb.ptr (r := r) (a := ⟨b, o + jj * size, none⟩) (k := kk) rfl hk
          simp only at this
          rw [show o + kk.sh + jj * size = o + jj * size + kk.sh from by omega]
          exact .one (.one (.base this))
      · cases e
    · cases e
  · cases e
theorem oIaddrS_sim (s : Sim fid r ρ ρ') {size : Nat} {x i : Opd} (e : oIaddrS size x i ρ m = some v) : ∃ v', pureV fid ρ' h (.iaddrS size x i) = some v' ∧ VR fid r v v' := by
  unfold oIaddrS at e
  split at e
  · rename_i u w hu hw
    split at e
    · rename_i b o n c k j ha hi
      split at e
      · rename_i jj hj
        obtain ⟨rfl, hlt⟩ := inE_some hj
        rw [mkPtr_eq, Option.some.injEq] at e; subst e
        obtain ⟨u', h1, h2⟩ := s x _ hu
        rw [vSl_some ha] at h2
        obtain ⟨kk, c', o', hs, hk, rfl, hn, q0, q1⟩ := h2.of_sl
        have ho : o' = o + kk.sh := by
          by_cases z : kk.es = 0
          · exact (q0 z).2
          · exact (q1 z).2 (by simp at hn; omega)
        subst ho
        have hi' := s.int (by rw [hw, vInt_some hi])
        refine ⟨.pointer (some ⟨kk.b, o + kk.sh + jj * size, none⟩), ?_, ?_⟩
        · simp only [pureV, h1, hi']
          rw [if_pos ⟨trivial, by simp, by simp; omega⟩]; simp
        · have := VRb.ptr (r := r) (a := ⟨b, o + jj * size, none⟩) (k := kk) rfl hk
          simp only at this
          rw [show o + kk.sh + jj * size = o + jj * size + kk.sh from by omega]
          exact .one (.one (.base this))
      · cases e
    · cases e
  · cases e
theorem oExt_sim (s : Sim fid r ρ ρ') {x : Opd} {i : Nat} (e : oExt x i ρ m = some v) : ∃ v', pureV fid ρ' h (.ext x i) = some v' ∧ VR fid r v v' := by
  unfold oExt at e
  split at e
  · rename_i u hu
    split at e
    · rename_i cs hc
      obtain ⟨u', h1, h2⟩ := s x _ hu
      rw [vTup_some hc] at h2
      obtain ⟨a', rfl, ha⟩ := h2.of_tup
      obtain ⟨v', g1, g2⟩ := ha.get e
      exact ⟨v', by simp only [pureV, h1]; exact g1, .one g2⟩
    · cases e
  · cases e
theorem oLenS_sim (s : Sim fid r ρ ρ') {x : Opd} (e : oLenS x ρ m = some v) : ∃ v', pureV fid ρ' h (.lenS x) = some v' ∧ VR fid r v v' := by
  unfold oLenS at e
  split at e
  · rename_i u hu
    split at e
    · rename_i a n c hc
      rw [mkInt_eq, Option.some.injEq] at e; subst e
      obtain ⟨u', h1, h2⟩ := s x _ hu
      rw [vSl_some hc] at h2
      cases a with
      | none => rw [h2.of_sl0] at h1; exact ⟨_, by simp only [pureV, h1], .int⟩
      | some a =>
        obtain ⟨kk, c', o', hs, hk, rfl, _⟩ := h2.of_sl
        exact ⟨_, by simp only [pureV, h1], .int⟩
    · cases e
  · cases e
end
end Go.Bb
/- Reckoning: each operation that changes nothing, more. -/
namespace Go.Bb
set_option linter.unusedVariables false
set_option linter.unusedSimpArgs false

section
variable {fid : Nat → Option FuncId} {r : Rr} {m : VM} {h : Heap} {ρ ρ' : Opd → Option Value} {v : Value}

theorem esE_some (p : HR fid r m h) {b es : Nat} {k : Rm} (hk : r b = some k) (e : esE m b = some es) : k.es = es ∧ (es = 0 → k.sh = 0) := by
  unfold esE at e
  split at e
  · rename_i es' vs hx
    simp only [Option.some.injEq] at e; subst e
    obtain ⟨y, hy, hb⟩ := HR.at (p := p) hk hx
    cases hb with
    | cells he hp hv h0 hz => exact ⟨he, fun z => by rw [← hp, (h0 z).1]; rfl⟩
  · cases e
theorem exactE_true (p : HR fid r m h) {b : Nat} {k : Rm} (hk : r b = some k) (e : exactE m b = true) : k.es = 0 := by
  unfold exactE at e
  split at e
  · rename_i hh; exact (esE_some p hk hh).1
  · cases e
theorem growE_true (p : HR fid r m h) {b size : Nat} {k : Rm} (hk : r b = some k) (e : growE m b size = true) : k.es = size ∧ k.es ≠ 0 := by
  unfold growE at e
  split at e
  · rename_i es hh
    have := (esE_some p hk hh).1
    have e2 := Nat.eq_of_beq_eq_true e
    omega
  · cases e

theorem oCap_sim (s : Sim fid r ρ ρ') (p : HR fid r m h) {x : Opd} (e : oCap x ρ m = some v) : ∃ v', pureV fid ρ' h (.capS x) = some v' ∧ VR fid r v v' := by
  unfold oCap at e
  split at e
  · rename_i u hu
    obtain ⟨u', h1, h2⟩ := s x _ hu
    split at e
    · rename_i n c hs
      rw [mkInt_eq, Option.some.injEq] at e; subst e
      rw [vSl_some hs] at h2
      rw [h2.of_sl0] at h1
      exact ⟨_, by simp only [pureV, h1], .int⟩
    · rename_i a n c hs
      rw [vSl_some hs] at h2
      obtain ⟨k, c', o, hsp, hk, rfl, hn, q0, q1⟩ := h2.of_sl
      cases hx : exactE m a.block with
      | false => rw [hx] at e; cases e
      | true =>
        rw [hx] at e; simp only [cond_true] at e
        rw [mkInt_eq, Option.some.injEq] at e; subst e
        have := (q0 (exactE_true p hk hx)).1
        subst this
        exact ⟨_, by simp only [pureV, h1], .int⟩
    · cases e
  · cases e

theorem bndV_le {d most i : Nat} {x : Option (Option Value)} (hd : d ≤ most) (e : bndV d most x = some i) : i ≤ most := by
  unfold bndV at e
  split at e
  · simp only [Option.some.injEq] at e; omega
  · split at e
    · simp only [Option.some.injEq] at e; omega
    · cases e
  · cases e
theorem oArrOf_sim (s : Sim fid r ρ ρ') {n : Nat} {x : Opd} (e : oArrOf n x ρ m = some v) : ∃ v', pureV fid ρ' h (.arrOf n x) = some v' ∧ VR fid r v v' := by
  unfold oArrOf at e
  split at e
  · rename_i u hu
    obtain ⟨u', h1, h2⟩ := s x _ hu
    split at e
    · rename_i a len c hs
      rw [vSl_some hs] at h2
      obtain ⟨k, c', o, hsp, hk, rfl, hn, q0, q1⟩ := h2.of_sl
      cases hx : (Nat.ble n len && Nat.blt 0 n) with
      | false => rw [hx] at e; cases e
      | true =>
        rw [hx] at e; simp only [cond_true, Option.some.injEq] at e; subst e
        simp only [Bool.and_eq_true] at hx
        have g1 := Nat.le_of_ble_eq_true hx.1
        have g2 : 0 < n := by have := hx.2; simp [Nat.blt] at this; omega
        simp only at hn q0 q1
        have ho : o = a.off + k.sh := by
          by_cases z : k.es = 0
          · exact (q0 z).2
          · exact (q1 z).2 (by omega)
        subst ho
        exact ⟨_, by simp only [pureV, h1]; rw [if_neg (by simp; omega)], .one (.one (.base (.ptr hsp hk)))⟩
    · cases e
  · cases e

theorem oLenM_sim (s : Sim fid r ρ ρ') (p : HR fid r m h) {x : Opd} (e : oLenM x ρ m = some v) : ∃ v', pureV fid ρ' h (.lenM x) = some v' ∧ VR fid r v v' := by
  unfold oLenM at e
  split at e
  · rename_i u hu
    obtain ⟨u', h1, h2⟩ := s x _ hu
    split at e
    · rename_i hs
      rw [mkInt_eq, Option.some.injEq] at e; subst e
      rw [vMap_some hs] at h2
      rw [h2.of_map0] at h1
      exact ⟨_, by simp only [pureV, h1], .int⟩
    · rename_i b hs
      rw [vMap_some hs] at h2
      obtain ⟨k, hk, rfl⟩ := h2.of_map
      split at e
      · rename_i es c hx
        rw [mkInt_eq, Option.some.injEq] at e; subst e
        obtain ⟨y, hy, hb⟩ := HR.at (p := p) hk hx
        cases hb with
        | map he =>
          rename_i es'
          have := he.length
          exact ⟨_, by simp only [pureV, h1, mapAt, hy, Option.map_some]; rw [← Array.length_toList, ← this], .int⟩
      · cases e
    · cases e
  · cases e

theorem findV_sim {kt : KeyT} {kv : Value} : ∀ {es es' : List MapEntry} {i : Nat} {q : Option (Nat × Value)}, All2 (ER fid r) es es' → findV kt kv es i = some q →
    (q = none ∧ findV kt kv es' i = some none) ∨ (∃ j v v', q = some (j, v) ∧ findV kt kv es' i = some (some (j, v')) ∧ VR1 fid r v v')
  | [], _, i, q, .nil, e => by simp only [findV, Option.some.injEq] at e; subst e; exact .inl ⟨rfl, rfl⟩
  | a :: as, _, i, q, .cons (b := b) (bs := bs) hab t, e => by
    simp only [findV] at e
    simp only [findV, hab.key]
    split at e
    · rename_i hk
      simp only [Option.some.injEq] at e; subst e
      right
      exact ⟨i, a.val, b.val, rfl, rfl, hab.val⟩
    · rename_i hk
      exact findV_sim t e
    · cases e
end
end Go.Bb
/- Reckoning: slice expressions. -/
namespace Go.Bb
set_option linter.unusedVariables false
set_option linter.unusedSimpArgs false

section
variable {fid : Nat → Option FuncId} {r : Rr} {m : VM} {h : Heap} {ρ ρ' : Opd → Option Value} {v : Value}

theorem bnds_le2 {len cap l hh m' : Nat} {lo hi mx : Option (Option Value)} (hc : len ≤ cap) (e : bnds len cap lo hi mx = some (l, hh, m')) : l ≤ hh ∧ hh ≤ m' := by
  unfold bnds at e
  split at e
  · cases e
  · rename_i q hq
    split at e
    · cases e
    · rename_i hx hhx
      split at e
      · cases e
      · rename_i lx hlx
        simp only [Option.some.injEq, Prod.mk.injEq] at e
        obtain ⟨rfl, rfl, rfl⟩ := e
        have h1 := bndV_le (Nat.zero_le _) hlx
        refine ⟨h1, ?_⟩
        split at hhx
        · cases hhx
        · rename_i hcond
          unfold bndV at hhx
          split at hhx
          · simp only [Option.some.injEq] at hhx; subst hhx
            cases mx with
            | none => simp only [bndV, Option.some.injEq] at hq; omega
            | some z => simp at hcond
          · split at hhx
            · rename_i hc; simp only [Option.some.injEq] at hhx; omega
            · cases hhx
          · cases hhx

theorem cutE_some {a : Addr} {size l hh m' : Nat} (e : cutE a size l hh m' = some v) : (bif Nat.beq m' l then a else a.add (l * size)).spot = none ∧ v = .slice (some (bif Nat.beq m' l then a else a.add (l * size))) (hh - l) (m' - l) := by
  unfold cutE at e
  exact mkSl_some e

theorem add_none (b o n : Nat) : (⟨b, o, none⟩ : Addr).add n = ⟨b, o + n, none⟩ := by simp [Addr.add]

theorem cut_rel {a : Addr} {size l hh m' : Nat} {k : Rm} (hs : a.spot = none) (hk : r a.block = some k) (hes : k.es = 0) (hle : l ≤ hh ∧ hh ≤ m') :
    VRb r (.slice (some (bif Nat.beq m' l then a else a.add (l * size))) (hh - l) (m' - l)) (.slice (some (if m' = l then k.at a else (k.at a).add (l * size))) (hh - l) (m' - l)) := by
  by_cases e : m' = l
  · subst e
    rw [Nat.beq_refl, if_pos rfl]
    exact .slice hs hk (by omega) (fun _ => ⟨rfl, rfl⟩) (fun hh => absurd hes hh)
  · have : Nat.beq m' l = false := by cases q : Nat.beq m' l with | false => rfl | true => exact absurd (Nat.eq_of_beq_eq_true q) e
    rw [this, if_neg e]
    simp only [cond_false]
    have h1 := add_off a (l * size)
    have h2 := add_block a (l * size)
    have h3 := add_spot hs (l * size)
    have e4 : (k.at a).add (l * size) = ⟨k.b, a.off + k.sh + l * size, none⟩ := add_none _ _ _
    rw [e4]
    exact .slice h3 (by rw [h2]; exact hk) (by omega) (fun _ => ⟨rfl, by rw [h1]; omega⟩) (fun hh => absurd hes hh)

theorem oSlArr_sim (s : Sim fid r ρ ρ') (p : HR fid r m h) {n size : Nat} {x : Opd} {lo hi mx : Option Opd} (e : oSlArr n size x lo hi mx ρ m = some v) : ∃ v', pureV fid ρ' h (.slArr n size x lo hi mx) = some v' ∧ VR fid r v v' := by
  unfold oSlArr at e
  split at e
  · rename_i u hu
    obtain ⟨u', h1, h2⟩ := s x _ hu
    split at e
    · rename_i a ha
      rw [vPtr_some ha] at h2
      obtain ⟨k, hs, hk, rfl⟩ := h2.of_ptr
      cases hx : exactE m a.block with
      | false => rw [hx] at e; cases e
      | true =>
        rw [hx] at e; simp only [cond_true] at e
        have hes := exactE_true p hk hx
        split at e
        · rename_i l hh m' hb
          obtain ⟨_, rfl⟩ := cutE_some e
          refine ⟨_, by simp only [pureV, h1, bnds_sim s hb], .one (.one (.base (cut_rel hs hk hes (bnds_le2 (Nat.le_refl _) hb))))⟩
        · cases e
    · cases e
  · cases e

theorem oSl_sim (s : Sim fid r ρ ρ') (p : HR fid r m h) {size : Nat} {x : Opd} {lo hi mx : Option Opd} (e : oSl size x lo hi mx ρ m = some v) : ∃ v', pureV fid ρ' h (.slSl size x lo hi mx) = some v' ∧ VR fid r v v' := by
  unfold oSl at e
  split at e
  · rename_i u hu
    obtain ⟨u', h1, h2⟩ := s x _ hu
    split at e
    · rename_i len cap hs
      rw [vSl_some hs] at h2
      rw [h2.of_sl0] at h1
      split at e
      · rename_i l hh m' hb
        simp only [Option.some.injEq] at e; subst e
        refine ⟨.slice none (hh - l) (m' - l), ?_, .plain rfl⟩
        simp only [pureV, h1, bnds_sim s hb]
        split <;> rfl
      · cases e
    · rename_i a len cap hs
      rw [vSl_some hs] at h2
      obtain ⟨k, c', o, hsp, hk, rfl, hn, q0, q1⟩ := h2.of_sl
      simp only at hn q0 q1
      cases hx : exactE m a.block with
      | true =>
        rw [hx] at e; simp only [cond_true] at e
        have hes := exactE_true p hk hx
        obtain ⟨rfl, rfl⟩ := q0 hes
        split at e
        · rename_i l hh m' hb
          obtain ⟨_, rfl⟩ := cutE_some e
          refine ⟨.slice (some (if m' = l then k.at a else (k.at a).add (l * size))) (hh - l) (m' - l), ?_, .one (.one (.base (cut_rel hsp hk hes (bnds_le2 hn hb))))⟩
          simp only [pureV, h1, bnds_sim s hb]
          split <;> rfl
        · cases e
      | false =>
        rw [hx] at e; simp only [cond_false] at e
        cases hg : (mx.isNone && growE m a.block size) with
        | false => rw [hg] at e; cases e
        | true =>
          rw [hg] at e; simp only [cond_true] at e
          simp only [Bool.and_eq_true] at hg
          obtain ⟨hes, hne⟩ := growE_true p hk hg.2
          obtain ⟨w1, w2⟩ := q1 hne
          have hmx : mx = none := by simpa using hg.1
          subst hmx
          split at e
          · rename_i l hh hb
            obtain ⟨hsa, rfl⟩ := mkSl_some e
            unfold bndsE at hb
            split at hb
            · cases hb
            · rename_i hh' hhi
              split at hb
              · cases hb
              · rename_i l' hlo
                simp only [Option.some.injEq, Prod.mk.injEq] at hb
                obtain ⟨rfl, rfl⟩ := hb
                have g1 := bndV_le (Nat.zero_le _) hlo
                have g2 := bndV_le (Nat.le_refl _) hhi
                have hb' : bnds len c' (oOpt ρ' lo) (oOpt ρ' hi) (oOpt ρ' none) = some (l', hh', c') := by
                  have e1 := bndV_sim s hhi
                  have e2 := bndV_sim s hlo
                  have e3 : bndV len c' (oOpt ρ' hi) = some hh' := by
                    unfold bndV at e1 ⊢
                    split at e1
                    · exact e1
                    · split at e1
                      · rename_i hc; rw [if_pos ⟨hc.1, by omega⟩]; exact e1
                      · cases e1
                    · cases e1
                  have e4 : bnds len c' (oOpt ρ' lo) (oOpt ρ' hi) (oOpt ρ' none) = (match bndV len c' (oOpt ρ' hi) with | none => none | some h => match bndV 0 h (oOpt ρ' lo) with | none => none | some l => some (l, h, c')) := rfl
                  rw [e4, e3]
                  simp only [e2]
                refine ⟨.slice (some (if c' = l' then ⟨k.b, o, none⟩ else (⟨k.b, o, none⟩ : Addr).add (l' * size))) (hh' - l') (c' - l'), ?_, ?_⟩
                · simp only [pureV, h1, hb']
                  split <;> rfl
                · have a1 := add_off a (l' * size)
                  have a2 := add_block a (l' * size)
                  by_cases e : c' = l'
                  · subst e
                    rw [if_pos rfl]
                    refine .one (.one (.base (.slice hsa (by rw [a2]; exact hk) (by omega) (fun z => absurd z hne) (fun _ => ⟨?_, fun z => absurd (Nat.sub_self _) z⟩))))
                    rw [a1, Nat.sub_self, Nat.zero_mul, ← hes]; omega
                  · rw [if_neg e, add_none]
                    have ho := w2 (by omega)
                    subst ho
                    refine .one (.one (.base (.slice hsa (by rw [a2]; exact hk) (by omega) (fun z => absurd z hne) (fun _ => ⟨?_, fun _ => ?_⟩))))
                    · rw [a1, ← hes, ← w1, Nat.sub_mul]
                      have : l' * k.es ≤ c' * k.es := Nat.mul_le_mul_right _ (by omega)
                      omega
                    · rw [a1]; omega
          · cases e
    · cases e
  · cases e
end
end Go.Bb
/- Reckoning: functions as values, maps read, the rest of what changes nothing. -/
namespace Go.Bb
set_option linter.unusedVariables false
set_option linter.unusedSimpArgs false

section
variable {fid : Nat → Option FuncId} {r : Rr} {m : VM} {h : Heap} {ρ ρ' : Opd → Option Value} {v : Value}

theorem VR.cap {v v' : Value} (p : VR fid r v v') (c : capOk v = true) : VRb r v v' := by
  cases p with
  | one p => cases p with
    | one p => cases p with
      | base p => exact p
      | func _ _ _ => cases c
    | agg _ => cases c
  | tup _ => cases c
theorem cap_all : ∀ {l l' : List Value}, All2 (VR fid r) l l' → l.all capOk = true → All2 (VRb r) l l'
  | [], _, .nil, _ => .nil
  | v :: vs, _, .cons hv ht, c => by
    simp only [List.all_cons, Bool.and_eq_true] at c
    exact .cons (hv.cap c.1) (cap_all ht c.2)
theorem plain_all : ∀ {l l' : List Value}, All2 (VR0 fid r) l l' → l.all plain = true → l' = l
  | [], _, .nil, _ => rfl
  | v :: vs, _, .cons hv ht, c => by
    simp only [List.all_cons, Bool.and_eq_true] at c
    rw [plain_all ht c.2, VR.of_plain (.one (.one hv)) c.1]
theorem VR.of_const {v v' : Value} (p : VR fid r v v') (c : constOk v = true) : v' = v := by
  cases v with
  | agg a =>
    obtain ⟨a', rfl, ha⟩ := p.of_agg
    have := plain_all ha c
    rw [show a' = a from Array.ext' this]
  | _ => exact p.of_plain c
theorem plain_refl : ∀ {l : List Value}, l.all plain = true → All2 (VR0 fid r) l l
  | [], _ => .nil
  | v :: vs, c => by
    simp only [List.all_cons, Bool.and_eq_true] at c
    exact .cons (.base (.plain c.1)) (plain_refl c.2)
theorem VR1.const {v : Value} (c : constOk v = true) : VR1 fid r v v := by
  cases v with
  | agg a => exact .agg (plain_refl c)
  | _ => exact .one (.base (.plain c))

/-- Numbers that the table has are the program's. -/
def Has (has : Nat → Bool) (fid : Nat → Option FuncId) : Prop := ∀ n, has n = true → ∃ g, fid n = some g

theorem oFn_sim {has : Nat → Bool} (hh : Has has fid) (s : Sim fid r ρ ρ') {n : Nat} {a b : List Opd} (e : oFn has n a b ρ m = some v) : ∃ v', pureV fid ρ' h (.fn n a b) = some v' ∧ VR fid r v v' := by
  unfold oFn at e
  split at e
  · rename_i x y hx hy
    cases hc : (has n && (x.all capOk && y.all capOk)) with
    | false => rw [hc] at e; cases e
    | true =>
      rw [hc] at e; simp only [cond_true, Option.some.injEq] at e; subst e
      simp only [Bool.and_eq_true] at hc
      obtain ⟨hc0, hc⟩ := hc
      obtain ⟨g, hg⟩ := hh n hc0
      obtain ⟨x', g1, g2⟩ := s.allV hx
      obtain ⟨y', g3, g4⟩ := s.allV hy
      exact ⟨.func (.func g) x'.toArray y'.toArray, by simp only [pureV, hg, g1, g3], .one (.one (.func hg (by simpa using cap_all g2 hc.1) (by simpa using cap_all g4 hc.2)))⟩
  · cases e

theorem oLook_sim (s : Sim fid r ρ ρ') (p : HR fid r m h) {kt : KeyT} {z : Value} {ok : Bool} {x k : Opd} (e : oLook kt z ok x k ρ m = some v) : ∃ v', pureV fid ρ' h (.lookup kt z ok x k) = some v' ∧ VR fid r v v' := by
  unfold oLook at e
  split at e
  · rename_i u kv hu hk
    cases hz : constOk z with
    | false => rw [hz] at hu; cases hu
    | true =>
      rw [hz] at hu; simp only [cond_true] at hu
      cases hkv : constOk kv with
      | false => rw [hkv] at e; cases e
      | true =>
        rw [hkv] at e; simp only [cond_true] at e
        obtain ⟨u', h1, h2⟩ := s x _ hu
        obtain ⟨kv', h3, h4⟩ := s k _ hk
        rw [h4.of_const hkv] at h3
        have rel : ∀ (w w' : Value) (b : Bool), VR1 fid r w w' → VR fid r (if ok = true then Value.tuple #[w, .bool b] else w) (if ok = true then Value.tuple #[w', .bool b] else w') := by
          intro w w' b hw
          cases ok with
          | true => exact .tup (.cons hw (.cons (.one (.base (.plain rfl))) .nil))
          | false => exact .one hw
        split at e
        · rename_i hm
          rw [vMap_some hm] at h2
          rw [h2.of_map0] at h1
          rw [Option.map_eq_some_iff] at e
          obtain ⟨q, hq, rfl⟩ := e
          exact ⟨_, by simp only [pureV, h1, h3, hq, Option.map_some], rel z z false (VR1.const hz)⟩
        · rename_i b hm
          rw [vMap_some hm] at h2
          obtain ⟨kk, hb, rfl⟩ := h2.of_map
          split at e
          · rename_i es c hx
            obtain ⟨y, hy, hbr⟩ := HR.at (p := p) hb hx
            cases hbr with
            | map he =>
              unfold foundE at e
              split at e
              · rename_i hf hfi
                simp only [Option.some.injEq] at e; subst e
                rcases findV_sim he hfi with ⟨q, _⟩ | ⟨j, w, w', q, g1, g2⟩
                · cases q
                · simp only [Option.some.injEq, Prod.mk.injEq] at q
                  obtain ⟨rfl, rfl⟩ := q
                  exact ⟨_, by simp only [pureV, h1, h3, mapAt, hy, hf, g1], rel _ _ true g2⟩
              · rename_i hf hfi
                simp only [Option.some.injEq] at e; subst e
                rcases findV_sim he hfi with ⟨_, g1⟩ | ⟨j, w, w', q, _, _⟩
                · exact ⟨_, by simp only [pureV, h1, h3, mapAt, hy, hf, g1], rel z z false (VR1.const hz)⟩
                · cases q
              · cases e
          · cases e
        · cases e
  · cases e
end
end Go.Bb
/- Reckoning: the rest of what changes nothing. -/
namespace Go.Bb
set_option linter.unusedVariables false
set_option linter.unusedSimpArgs false

section
variable {fid : Nat → Option FuncId} {r : Rr} {m : VM} {h : Heap} {ρ ρ' : Opd → Option Value} {v : Value}

theorem unV_plain {op : UnOp} {x v : Value} (e : unV op x = some v) : plain x = true ∧ plain v = true := by
  unfold unV at e
  split at e <;> first
    | (simp at e; done)
    | (simp at e; subst e; exact ⟨rfl, rfl⟩)

theorem eqV_sim {k : EqK} {a b a' b' : Value} {q : Bool} (ha : VR fid r a a') (hb : VR fid r b b') (e : eqV k a b = some q) : eqV k a' b' = some q := by
  have isn : ∀ {x : Option Addr} {w : Value}, VR fid r (.pointer x) w → ∃ y, w = .pointer y ∧ y.isNone = x.isNone := by
    intro x w hw
    cases x with
    | none => exact ⟨none, hw.of_ptr0, rfl⟩
    | some x => obtain ⟨k, _, _, rfl⟩ := hw.of_ptr; exact ⟨_, rfl, rfl⟩
  have iss : ∀ {x : Option Addr} {n c : Nat} {w : Value}, VR fid r (.slice x n c) w → ∃ y n' c', w = .slice y n' c' ∧ y.isNone = x.isNone := by
    intro x n c w hw
    cases x with
    | none => exact ⟨none, _, _, hw.of_sl0, rfl⟩
    | some x => obtain ⟨k, _, _, _, _, rfl, _⟩ := hw.of_sl; exact ⟨_, _, _, rfl, rfl⟩
  have ism : ∀ {x : Option Nat} {w : Value}, VR fid r (.map x) w → ∃ y, w = .map y ∧ y.isNone = x.isNone := by
    intro x w hw
    cases x with
    | none => exact ⟨none, hw.of_map0, rfl⟩
    | some x => obtain ⟨k, _, rfl⟩ := hw.of_map; exact ⟨_, rfl, rfl⟩
  unfold eqV at e
  split at e
  · rw [ha.of_bool, hb.of_bool]; exact e
  · rw [ha.of_ptr0]; obtain ⟨y, rfl, hy⟩ := isn hb; simp only [eqV, hy]; exact e
  · obtain ⟨y, rfl, hy⟩ := isn ha; rw [hb.of_ptr0]
    cases y with
    | none => simp at hy
    | some y => exact e
  · rw [ha.of_sl0]; obtain ⟨y, _, _, rfl, hy⟩ := iss hb; simp only [eqV, hy]; exact e
  · obtain ⟨y, _, _, rfl, hy⟩ := iss ha; rw [hb.of_sl0]
    cases y with
    | none => simp at hy
    | some y => exact e
  · rw [ha.of_map0]; obtain ⟨y, rfl, hy⟩ := ism hb; simp only [eqV, hy]; exact e
  · obtain ⟨y, rfl, hy⟩ := ism ha; rw [hb.of_map0]
    cases y with
    | none => simp at hy
    | some y => exact e
  · rw [ha.of_plain rfl, hb.of_plain rfl]; exact e
  · rw [ha.of_plain rfl]; obtain ⟨n, g, a', c', _, _, rfl, _⟩ := hb.of_fn; exact e
  · rw [hb.of_plain rfl]; obtain ⟨n, g, a', c', _, _, rfl, _⟩ := ha.of_fn; exact e
  · cases e

theorem rest_eqv (s : Sim fid r ρ ρ') {k : EqK} {ne : Bool} {x y : Opd} (e : oRest (.eqv k ne x y) ρ m = some v) : ∃ v', pureV fid ρ' h (.eqv k ne x y) = some v' ∧ VR fid r v v' := by
  simp only [oRest, pureV] at e
  split at e
  · rename_i a b ha hb
    rw [Option.map_eq_some_iff] at e
    obtain ⟨q, hq, rfl⟩ := e
    obtain ⟨a', g1, g2⟩ := s x _ ha
    obtain ⟨b', g3, g4⟩ := s y _ hb
    exact ⟨_, by simp only [pureV, g1, g3, eqV_sim g2 g4 hq, Option.map_some], .bool⟩
  · cases e
theorem rest_eqa (s : Sim fid r ρ ρ') {ks : List (Option IntKind)} {ne : Bool} {x y : Opd} (e : oRest (.eqa ks ne x y) ρ m = some v) : ∃ v', pureV fid ρ' h (.eqa ks ne x y) = some v' ∧ VR fid r v v' := by
  simp only [oRest, pureV] at e
  split at e
  · rename_i a b ha hb
    split at e
    · rename_i hc
      simp only [Option.some.injEq] at e; subst e
      have hc' := hc
      simp only [Bool.and_eq_true] at hc'
      obtain ⟨a', g1, g2⟩ := s x _ ha
      obtain ⟨b', g3, g4⟩ := s y _ hb
      obtain ⟨aa, rfl, ga⟩ := g2.of_agg
      obtain ⟨bb, rfl, gb⟩ := g4.of_agg
      have e1 := leaves_eq hc'.1 ga
      have e2 := leaves_eq hc'.2 gb
      rw [show aa = a from Array.ext' e1] at g1
      rw [show bb = b from Array.ext' e2] at g3
      exact ⟨_, by simp only [pureV, g1, g3]; rw [if_pos hc], .bool⟩
    · cases e
  · cases e
theorem rest_un (s : Sim fid r ρ ρ') {op : UnOp} {x : Opd} (e : oRest (.un op x) ρ m = some v) : ∃ v', pureV fid ρ' h (.un op x) = some v' ∧ VR fid r v v' := by
  simp only [oRest, pureV] at e
  split at e
  · rename_i a ha
    obtain ⟨p1, p2⟩ := unV_plain e
    exact ⟨v, by simp only [pureV, s.plain' ha p1, e], .plain p2⟩
  · cases e
theorem rest_strId (s : Sim fid r ρ ρ') {x : Opd} (e : oRest (.strId x) ρ m = some v) : ∃ v', pureV fid ρ' h (.strId x) = some v' ∧ VR fid r v v' := by
  simp only [oRest, pureV] at e
  split at e
  · rename_i b hb
    simp only [Option.some.injEq] at e; subst e
    exact ⟨_, by simp only [pureV, s.str hb], .plain rfl⟩
  · cases e
theorem rest_idxA (s : Sim fid r ρ ρ') {n size : Nat} {k : Option Nat} {x i : Opd} (e : oRest (.idxA n size k x i) ρ m = some v) : ∃ v', pureV fid ρ' h (.idxA n size k x i) = some v' ∧ VR fid r v v' := by
  simp only [oRest, pureV] at e
  split at e
  · rename_i cs kk j hx hi
    split at e
    · rename_i hc
      obtain ⟨a', g1, g2⟩ := s x _ hx
      obtain ⟨aa, rfl, ga⟩ := g2.of_agg
      obtain ⟨v', q1, q2⟩ := part_sim ga e
      exact ⟨v', by simp only [pureV, g1, s.int hi]; rw [if_pos hc]; exact q1, q2⟩
    · cases e
  · cases e
theorem rest_idxS (s : Sim fid r ρ ρ') {x i : Opd} (e : oRest (.idxS x i) ρ m = some v) : ∃ v', pureV fid ρ' h (.idxS x i) = some v' ∧ VR fid r v v' := by
  simp only [oRest, pureV] at e
  split at e
  · rename_i b kk j hx hi
    split at e
    · rename_i hc
      have e' := e
      rw [Option.map_eq_some_iff] at e
      obtain ⟨q, hq, rfl⟩ := e
      exact ⟨_, by simp only [pureV, s.str hx, s.int hi]; rw [if_pos hc]; exact e', .int⟩
    · cases e
  · cases e
theorem rest_lenStr (s : Sim fid r ρ ρ') {x : Opd} (e : oRest (.lenStr x) ρ m = some v) : ∃ v', pureV fid ρ' h (.lenStr x) = some v' ∧ VR fid r v v' := by
  simp only [oRest, pureV] at e
  split at e
  · rename_i b hb
    simp only [Option.some.injEq] at e; subst e
    exact ⟨_, by simp only [pureV, s.str hb], .int⟩
  · cases e
theorem rest_mn (s : Sim fid r ρ ρ') {x y : Opd} (e : oRest (.mn x y) ρ m = some v) : ∃ v', pureV fid ρ' h (.mn x y) = some v' ∧ VR fid r v v' := by
  simp only [oRest, pureV] at e
  split at e
  · rename_i k a k' b ha hb
    simp only [Option.some.injEq] at e; subst e
    exact ⟨_, by simp only [pureV, s.int ha, s.int hb], .int⟩
  · cases e
theorem rest_mx (s : Sim fid r ρ ρ') {x y : Opd} (e : oRest (.mx x y) ρ m = some v) : ∃ v', pureV fid ρ' h (.mx x y) = some v' ∧ VR fid r v v' := by
  simp only [oRest, pureV] at e
  split at e
  · rename_i k a k' b ha hb
    simp only [Option.some.injEq] at e; subst e
    exact ⟨_, by simp only [pureV, s.int ha, s.int hb], .int⟩
  · cases e
theorem rest_slStr (s : Sim fid r ρ ρ') {x : Opd} {lo hi : Option Opd} (e : oRest (.slStr x lo hi) ρ m = some v) : ∃ v', pureV fid ρ' h (.slStr x lo hi) = some v' ∧ VR fid r v v' := by
  simp only [oRest, pureV] at e
  split at e
  · rename_i b hb
    split at e
    · rename_i l hh q hbn
      simp only [Option.some.injEq] at e; subst e
      have : bnds b.size b.size (oOpt ρ' lo) (oOpt ρ' hi) none = some (l, hh, q) := bnds_sim (mx := none) s hbn
      exact ⟨_, by simp only [pureV, s.str hb, this], .plain rfl⟩
    · cases e
  · cases e
end
end Go.Bb
/- Reckoning: values that are built, carries. -/
namespace Go.Bb
set_option linter.unusedVariables false
set_option linter.unusedSimpArgs false

section
variable {fid : Nat → Option FuncId} {r : Rr} {m : VM} {h : Heap} {ρ ρ' : Opd → Option Value} {v : Value}

theorem prim_sim {p : Prim} {vs vs' : List Value} (hv : All2 (VR fid r) vs vs') (e : primV p vs = some v) : primV p vs' = some v ∧ VR fid r v v := by
  unfold primV at e
  split at e
  · cases hv with | cons h1 t => cases t with | cons h2 t => cases t with | cons h3 t => cases t with | nil =>
      rw [h1.of_int, h2.of_int, h3.of_int]
      refine ⟨e, ?_⟩
      split at e
      · simp only [Option.some.injEq] at e; subst e
        exact .tup (.cons (.one (.base (.plain rfl))) (.cons (.one (.base (.plain rfl))) .nil))
      · cases e
  · cases hv with | cons h1 t => cases t with | cons h2 t => cases t with | cons h3 t => cases t with | nil =>
      rw [h1.of_int, h2.of_int, h3.of_int]
      refine ⟨e, ?_⟩
      split at e
      · simp only [Option.some.injEq] at e; subst e
        exact .tup (.cons (.one (.base (.plain rfl))) (.cons (.one (.base (.plain rfl))) .nil))
      · cases e
  · cases e
theorem rest_prim (s : Sim fid r ρ ρ') {p : Prim} {xs : List Opd} (e : oRest (.prim p xs) ρ m = some v) : ∃ v', pureV fid ρ' h (.prim p xs) = some v' ∧ VR fid r v v' := by
  simp only [oRest, pureV] at e
  split at e
  · rename_i vs hvs
    obtain ⟨vs', g1, g2⟩ := s.allV hvs
    obtain ⟨q1, q2⟩ := prim_sim g2 e
    exact ⟨v, by simp only [pureV, g1, q1], q2⟩
  · cases e

/-- Parts on both sides. -/
inductive PR (fid : Nat → Option FuncId) (r : Rr) : Nat × Nat × Value → Nat × Nat × Value → Prop
  | mk {a b : Nat} {v v' : Value} (h : VR fid r v v') : PR fid r (a, b, v) (a, b, v')
theorem Sim.allP (s : Sim fid r ρ ρ') : ∀ {xs : List (Nat × Nat × Opd)} {vs : List (Nat × Nat × Value)}, allP ρ xs = some vs → ∃ vs', allP ρ' xs = some vs' ∧ All2 (PR fid r) vs vs'
  | [], vs, e => by simp only [Go.Bb.allP, Option.some.injEq] at e; subst e; exact ⟨[], rfl, .nil⟩
  | (a, b, x) :: xs, vs, e => by
    simp only [Go.Bb.allP] at e
    split at e
    · rename_i v vs hv hvs
      simp only [Option.some.injEq] at e; subst e
      obtain ⟨v', h1, h2⟩ := s x _ hv
      obtain ⟨vs', h3, h4⟩ := s.allP hvs
      exact ⟨(a, b, v') :: vs', by simp only [Go.Bb.allP, h1, h3], .cons (.mk h2) h4⟩
    · cases e

/-- Cells that may be: each one is one cell, or (a tuple) not looked at. -/
theorem cells_rel {v v' : Value} (p : VR1 fid r v v') : All2 (VR0 fid r) v.cells.toList v'.cells.toList := by
  cases p with
  | one p => cases p with
    | base p => cases p with
      | plain p => cases v <;> first | (cases p; done) | exact .cons (.base (.plain p)) .nil
      | ptr hs hk => exact .cons (.base (.ptr hs hk)) .nil
      | slice hs hk hn h0 h1 => exact .cons (.base (.slice hs hk hn h0 h1)) .nil
      | map hk => exact .cons (.base (.map hk)) .nil
    | func hg ha hc => exact .cons (.func hg ha hc) .nil
  | agg p => exact p

theorem VR.one' {v v' : Value} (p : VR fid r v v') (c : noTup v = true) : VR1 fid r v v' := by
  cases p with
  | one p => exact p
  | tup p => cases c
theorem fillL_sim : ∀ {ps ps' : List (Nat × Nat × Value)} {l l' q : List Value}, All2 (PR fid r) ps ps' → ps.all (fun p => noTup p.2.2) = true → All2 (VR0 fid r) l l' → z6j l ps = some q → ∃ q', z6j l' ps' = some q' ∧ All2 (VR0 fid r) q q'
  | [], _, l, l', q, .nil, _, hl, e => by simp only [z6j, Option.some.injEq] at e; subst e; exact ⟨l', rfl, hl⟩
  | _ :: ps, _, l, l', q, .cons (.mk (a := off) (b := size) (v := v) (v' := v') hv) ht, c, hl, e => by
    simp only [List.all_cons, Bool.and_eq_true] at c
    have hc := cells_rel (hv.one' c.1)
    have hlen := hc.length
    have hll := hl.length
    simp only [z6j] at e ⊢
    split at e
    · rename_i hcond
      rw [if_pos ⟨by rw [← hcond.1, ← Array.length_toList, ← Array.length_toList, hlen], by omega⟩]
      exact fillL_sim ht c.2 (((hl.take off).append hc).append (hl.drop _)) e
    · cases e
theorem oBuild_sim (s : Sim fid r ρ ρ') {z : List Value} {ps : List (Nat × Nat × Opd)} (e : oBuild z ps ρ m = some v) : ∃ v', pureV fid ρ' h (.build z ps) = some v' ∧ VR fid r v v' := by
  unfold oBuild at e
  cases hz : z.all plain with
  | false => rw [hz] at e; cases e
  | true =>
    rw [hz] at e; simp only [cond_true] at e
    split at e
    · rename_i q hq
      obtain ⟨q', g1, g2⟩ := s.allP hq
      split at e
      · rename_i l hl
        simp only [Option.some.injEq] at e; subst e
        cases hc : q.all (fun p => noTup p.2.2) with
        | false => rw [hc] at hl; cases hl
        | true =>
          rw [hc] at hl; simp only [cond_true] at hl
          obtain ⟨l', w1, w2⟩ := fillL_sim g2 hc (plain_refl hz) hl
          exact ⟨.agg l'.toArray, by simp only [pureV, g1, w1, Option.map_some], .one (.agg (by simpa using w2))⟩
      · cases e
    · cases e
end
end Go.Bb
/- Reckoning: all quiet operations; new blocks. -/
namespace Go.Bb
set_option linter.unusedVariables false
set_option linter.unusedSimpArgs false

section
variable {has : Nat → Bool} {fid : Nat → Option FuncId} {r : Rr} {m : VM} {h : Heap} {ρ ρ' : Opd → Option Value} {v : Value}

theorem pure_sim (hh : Has has fid) (s : Sim fid r ρ ρ') (p : HR fid r m h) {op : AOp} (e : (boxP has op).f ρ m = some v) : ∃ v', pureV fid ρ' h op = some v' ∧ VR fid r v v' := by
  cases op with
  | mv => exact oMv_sim (m := m) s e
  | num => exact oNum_sim (m := m) (ρ := ρ) e
  | pick => exact oPick_sim (m := m) s e
  | load => exact oLoad_sim s p e
  | nilc => exact oNilc_sim (m := m) s e
  | bin => exact oBin_sim (m := m) s e
  | eqv => exact rest_eqv (m := m) s e
  | eqa => exact rest_eqa (m := m) s e
  | un => exact rest_un (m := m) s e
  | conv => exact oConv_sim (m := m) s e
  | strOf => exact oStrOf_sim s p e
  | strId => exact rest_strId (m := m) s e
  | faddr => exact oFaddr_sim (m := m) s e
  | field => exact oField_sim (m := m) s e
  | iaddrA => exact oIaddrA_sim (m := m) s e
  | iaddrS => exact oIaddrS_sim (m := m) s e
  | idxA => exact rest_idxA (m := m) s e
  | idxS => exact rest_idxS (m := m) s e
  | ext => exact oExt_sim (m := m) s e
  | lenS => exact oLenS_sim (m := m) s e
  | lenStr => exact rest_lenStr (m := m) s e
  | capS => exact oCap_sim s p e
  | mn => exact rest_mn (m := m) s e
  | mx => exact rest_mx (m := m) s e
  | slStr => exact rest_slStr (m := m) s e
  | slSl => exact oSl_sim s p e
  | slArr => exact oSlArr_sim s p e
  | arrOf => exact oArrOf_sim (m := m) s e
  | fn => exact oFn_sim (m := m) hh s e
  | build => exact oBuild_sim (m := m) s e
  | prim => exact rest_prim (m := m) s e
  | lookup => exact oLook_sim s p e
  | lenM => exact oLenM_sim s p e
  | alloc => cases e
  | box => cases e
  | bslice => cases e
  | mslice => cases e
  | mmap => cases e
  | store => cases e
  | call => cases e
  | callv => cases e
  | append => cases e
  | appendZ => cases e
  | copy => cases e
  | mupd => cases e
  | mdel => cases e
  | bytesOf => cases e
  | mark => cases e
  | rangeM => cases e
  | nextM => cases e
  | entryM => cases e
  | bad => cases e

theorem BR.exact {vs vs' : List Value} (hv : All2 (VR0 fid r) vs vs') (b sz : Nat) (hs : sz = vs'.length) : BR fid r ⟨b, 0, sz, 0⟩ (.cells 0 vs) (.own 0 vs' sz) := by
  have := BR.cells (fid := fid) (r := r) (k := ⟨b, 0, sz, 0⟩) (es := 0) (vs := vs) (pre := []) (vs' := vs') (rest := []) rfl rfl hv (fun _ => ⟨rfl, rfl, by simp [hv.length, hs]⟩) (by simp [hs])
  simpa using this

/-- What comes of an operation that makes a block. -/
def AllocOk (fid : Nat → Option FuncId) (r : Rr) (vb : VB) (mk : Nat → Value) (blk : Blk) (mk' : Nat → Value) : Prop :=
  ∃ sz, ∀ (n b : Nat) (r' : Rr), r.le r' → r' n = some ⟨b, 0, sz, 0⟩ → BR fid r' ⟨b, 0, sz, 0⟩ vb blk ∧ VR fid r' (mk n) (mk' b)

theorem vr_ptr {n b sz : Nat} (hk : r n = some ⟨b, 0, sz, 0⟩) : VR fid r (.pointer (some ⟨n, 0, none⟩)) (.pointer (some ⟨b, 0, none⟩)) :=
  .one (.one (.base (.ptr (a := ⟨n, 0, none⟩) (k := ⟨b, 0, sz, 0⟩) rfl hk)))
theorem vr_slice {n b sz l c : Nat} (hk : r n = some ⟨b, 0, sz, 0⟩) (hl : l ≤ c) : VR fid r (.slice (some ⟨n, 0, none⟩) l c) (.slice (some ⟨b, 0, none⟩) l c) :=
  .one (.one (.base (.slice (a := ⟨n, 0, none⟩) (k := ⟨b, 0, sz, 0⟩) (n := l) (c := c) (c' := c) (o := 0) rfl hk hl (fun _ => ⟨rfl, rfl⟩) (fun h => absurd rfl h))))
theorem all_rep {z : List Value} {n : Nat} {f : Value → Bool} (h : z.all f = true) : (List.flatten (List.replicate n z)).all f = true := by
  rw [List.all_eq_true] at h ⊢
  intro x hx
  simp only [List.mem_flatten, List.mem_replicate] at hx
  obtain ⟨l, ⟨_, rfl⟩, hx⟩ := hx
  exact h x hx
theorem len_rep (z : List Value) (n : Nat) : (List.flatten (List.replicate n z)).length = n * z.length := by simp

theorem aAlloc_sim {z : List Value} {vb : VB} {mk : Nat → Value} (e : aAlloc z ρ = some (vb, mk)) : ∃ blk mk', z6i ρ' (.alloc z) = some (blk, mk') ∧ AllocOk fid r vb mk blk mk' := by
  unfold aAlloc at e
  cases hz : z.all plain with
  | false => rw [hz] at e; cases e
  | true =>
    rw [hz] at e; simp only [cond_true, Option.some.injEq, Prod.mk.injEq] at e
    obtain ⟨rfl, rfl⟩ := e
    exact ⟨_, _, rfl, z.length, fun n b r' hl hk => ⟨BR.exact (plain_refl hz) _ _ rfl, vr_ptr hk⟩⟩
theorem aBox_sim (s : Sim fid r ρ ρ') {x : Opd} {vb : VB} {mk : Nat → Value} (e : aBox x ρ = some (vb, mk)) : ∃ blk mk', z6i ρ' (.box x) = some (blk, mk') ∧ AllocOk fid r vb mk blk mk' := by
  unfold aBox at e
  split at e
  · rename_i v hv
    cases hz : noTup v with
    | false => rw [hz] at e; cases e
    | true =>
      rw [hz] at e; simp only [cond_true, Option.some.injEq, Prod.mk.injEq] at e
      obtain ⟨rfl, rfl⟩ := e
      obtain ⟨v', h1, h2⟩ := s x _ hv
      refine ⟨.own 0 v'.cells.toList v'.cells.size, _, by simp only [z6i, h1], v'.cells.size, fun n b r' hl hk => ⟨BR.exact ?_ _ _ (by simp), vr_ptr hk⟩⟩
      exact (cells_rel (h2.one' hz)).mono fun _ _ q => q.mono hl
  · cases e
theorem aBslice_sim (s : Sim fid r ρ ρ') {n size : Nat} {z : List Value} {parts : List (Nat × Nat × Opd)} {vb : VB} {mk : Nat → Value} (e : aBslice n size z parts ρ = some (vb, mk)) :
    ∃ blk mk', z6i ρ' (.bslice n size z parts) = some (blk, mk') ∧ AllocOk fid r vb mk blk mk' := by
  unfold aBslice at e
  cases hz : z.all plain with
  | false => rw [hz] at e; cases e
  | true =>
    rw [hz] at e; simp only [cond_true] at e
    split at e
    · rename_i q hq
      obtain ⟨q', g1, g2⟩ := s.allP hq
      split at e
      · rename_i l hl
        simp only [Option.some.injEq, Prod.mk.injEq] at e
        obtain ⟨rfl, rfl⟩ := e
        cases hc : q.all (fun p => noTup p.2.2) with
        | false => rw [hc] at hl; cases hl
        | true =>
          rw [hc] at hl; simp only [cond_true] at hl
          obtain ⟨l', w1, w2⟩ := fillL_sim g2 hc (plain_refl (all_rep hz)) hl
          exact ⟨_, _, by simp only [z6i, g1, w1], l'.length, fun k b r' hle hk => ⟨BR.exact (w2.mono fun _ _ q => q.mono hle) _ _ rfl, vr_slice hk (Nat.le_refl _)⟩⟩
      · cases e
    · cases e
theorem aMslice_sim (s : Sim fid r ρ ρ') {bytes : Nat} {z : List Value} {l c : Opd} {vb : VB} {mk : Nat → Value} (e : aMslice bytes z l c ρ = some (vb, mk)) :
    ∃ blk mk', z6i ρ' (.mslice bytes z l c) = some (blk, mk') ∧ AllocOk fid r vb mk blk mk' := by
  unfold aMslice at e
  cases hz : z.all plain with
  | false => rw [hz] at e; cases e
  | true =>
    rw [hz] at e; simp only [cond_true] at e
    split at e
    · rename_i u w hu hw
      split at e
      · rename_i k1 l' k2 c' hl hc
        have h1 := s.int (by rw [hu, vInt_some hl])
        have h2 := s.int (by rw [hw, vInt_some hc])
        simp only at h1 h2
        split at e
        · rename_i hcond
          simp only [Option.some.injEq, Prod.mk.injEq] at e
          obtain ⟨rfl, rfl⟩ := e
          refine ⟨_, _, by simp only [z6i, h1, h2]; rw [if_pos hcond], c'.toNat * z.length, fun k b r' hle hk => ⟨BR.exact (plain_refl (all_rep hz)) _ _ (by rw [len_rep]), vr_slice hk (by omega)⟩⟩
        · cases e
      · cases e
    · cases e
theorem aMmap_sim {vb : VB} {mk : Nat → Value} (e : aMmap ρ = some (vb, mk)) : ∃ blk mk', z6i ρ' .mmap = some (blk, mk') ∧ AllocOk fid r vb mk blk mk' := by
  simp only [aMmap, Option.some.injEq, Prod.mk.injEq] at e
  obtain ⟨rfl, rfl⟩ := e
  exact ⟨_, _, rfl, 0, fun n b r' hl hk => ⟨.map .nil, .one (.one (.base (.map hk)))⟩⟩
end
end Go.Bb
/- Reckoning: what writes, first part: a step that is sound; calls, stores, bytes. -/
namespace Go.Bb
set_option linter.unusedVariables false
set_option linter.unusedSimpArgs false

/-- What is told of calls is so. -/
def CallOk (E : Env) (h0 : Heap) (n : Nat) (f : List Value → VM → RV) : Prop := ∀ (args : List Value) (m : VM) (v : Value) (m' : VM) (r : Rr) (h : Heap) (args' : List Value), HS E.fid h0 r m h → All2 (VR E.fid r) args args' → f args m = some (v, m') →
  ACallN E n args' h fun v' h' => ∃ r', r.le r' ∧ HS E.fid h0 r' m' h' ∧ VR E.fid r' v v'
def CallsOk (E : Env) (h0 : Heap) (call : CallE) : Prop := ∀ n, CallOk E h0 n (call n)

section
variable {has : Nat → Bool} {E : Env} {h0 : Heap} {r : Rr} {m m' : VM} {h : Heap} {ρ ρ' : Opd → Option Value} {v : Value} {call : CallE} {K : Value → Heap → Prop}

def After (E : Env) (h0 : Heap) (r : Rr) (m' : VM) (v : Value) (K : Value → Heap → Prop) : Prop := ∀ v' h' r', r.le r' → HS E.fid h0 r' m' h' → VR E.fid r' v v' → K v' h'

theorem undef_rel : VR E.fid r undef undef := .tup .nil

theorem alloc_step {op : AOp} {f : Ev → AV} (ha : op.isA = true) (hf : ∀ vb mk, f ρ = some (vb, mk) → ∃ blk mk', z6i ρ' op = some (blk, mk') ∧ AllocOk E.fid r vb mk blk mk') (p : HS E.fid h0 r m h)
    (e : wAlloc f call ρ m = some (v, m')) : ∃ blk mk', z6i ρ' op = some (blk, mk') ∧ ∀ b, h b = none → ∃ r', r.le r' ∧ HS E.fid h0 r' m' (h.set b blk) ∧ VR E.fid r' v (mk' b) := by
  unfold wAlloc at e
  split at e
  · rename_i vb mk hfv
    obtain ⟨hn, rfl, rfl⟩ := newE_some e
    obtain ⟨blk, mk', h1, sz, h2⟩ := hf vb mk hfv
    refine ⟨blk, mk', h1, fun b hb => ?_⟩
    have hle : r.le (r.more m.next ⟨b, 0, sz, 0⟩) := Rr.le_more (p.fresh _ (Nat.le_refl _))
    obtain ⟨g1, g2⟩ := h2 m.next b _ hle (by simp [Rr.more])
    obtain ⟨q, _⟩ := p.alloc (k := ⟨b, 0, sz, 0⟩) hn hb g1
    exact ⟨_, hle, q, g2⟩
  · cases e

theorem step_alloc_sim {op : AOp} {f : Ev → AV} (ha : op.isA = true) (hnb : op.isB = false) (hf : ∀ vb mk, f ρ = some (vb, mk) → ∃ blk mk', z6i ρ' op = some (blk, mk') ∧ AllocOk E.fid r vb mk blk mk') (p : HS E.fid h0 r m h)
    (e : wAlloc f call ρ m = some (v, m')) (q : After E h0 r m' v K) : step E ρ' h op K := by
  obtain ⟨blk, mk', h1, h2⟩ := alloc_step ha hf p e
  rw [step_A ha hnb, h1, z1d]
  intro b hb
  obtain ⟨r', g1, g2, g3⟩ := h2 b hb
  exact q _ _ r' g1 g2 g3

theorem one0 {fid : Nat → Option FuncId} {v v' : Value} (p : VR0 fid r v v') : one v' = true := by
  cases p with
  | base p => cases p with
    | plain p => cases v <;> first | rfl | (cases p; done)
    | ptr _ _ => rfl
    | slice _ _ _ _ _ => rfl
    | map _ => rfl
  | func _ _ _ => rfl
theorem one_all {fid : Nat → Option FuncId} : ∀ {l l' : List Value}, All2 (VR0 fid r) l l' → ∀ u ∈ l', one u = true
  | _, _, .nil => by simp
  | _, _, .cons x t => by
    intro u hu
    simp only [List.mem_cons] at hu
    rcases hu with rfl | hu
    · exact one0 x
    · exact one_all t u hu
theorem tup_one {v : Value} (h : v.cells.toList.all one = true) : noTup v = true := by
  cases v <;> first | rfl | (simp [Value.cells, one] at h)

theorem wStore_sim (s : Sim E.fid r ρ ρ') (p : HS E.fid h0 r m h) {size : Nat} {a x : Opd} (e : wStore size a x call ρ m = some (v, m')) (q : After E h0 r m' v K) : step E ρ' h (.store size a x) K := by
  unfold wStore at e
  split at e
  · rename_i ad u ha hx
    obtain ⟨a', h1, h2⟩ := s a _ ha
    obtain ⟨k, hs, hk, rfl⟩ := h2.of_ptr
    obtain ⟨u', h3, h4⟩ := s x _ hx
    cases hc : (Nat.beq u.cells.size size && u.cells.toList.all one) with
    | false => rw [hc] at e; cases e
    | true =>
      rw [hc] at e; simp only [cond_true] at e
      simp only [Bool.and_eq_true] at hc
      obtain ⟨hc1, hc2⟩ := hc
      have hc1 := Nat.eq_of_beq_eq_true hc1
      have hr := cells_rel (h4.one' (tup_one hc2))
      rw [Option.map_eq_some_iff] at e
      obtain ⟨m2, hm, hh⟩ := e
      simp only [Prod.mk.injEq] at hh
      obtain ⟨rfl, rfl⟩ := hh
      obtain ⟨h', g1, g2⟩ := store_sim p hk hr hm
      have hlen := hr.length
      simp only [step, stepW, h1, h3]
      refine ⟨by rw [← hc1, ← Array.length_toList, ← Array.length_toList, hlen], one_all hr, ?_⟩
      rw [show (⟨k.b, ad.off + k.sh, none⟩ : Addr) = k.at ad from rfl, g1]
      exact q _ _ r (Rr.le_refl _) g2 undef_rel
  · cases e

theorem wCall_sim (hc : CallsOk E h0 call) (s : Sim E.fid r ρ ρ') (p : HS E.fid h0 r m h) {n : Nat} {args : List Opd} (e : wCall n args call ρ m = some (v, m')) (q : After E h0 r m' v K) : step E ρ' h (.call n args) K := by
  unfold wCall at e
  split at e
  · rename_i vs hvs
    obtain ⟨vs', g1, g2⟩ := s.allV hvs
    simp only [step, stepW, g1]
    exact (hc n vs m v m' r h vs' p g2 e).mono fun v' h' ⟨r', a, b, c⟩ => q v' h' r' a b c
  · cases e

theorem All2.lift {fid : Nat → Option FuncId} {l l' : List Value} (h : All2 (VRb r) l l') : All2 (VR fid r) l l' := h.mono fun _ _ x => .one (.one (.base x))

theorem wCallv_sim (hc : CallsOk E h0 call) (s : Sim E.fid r ρ ρ') (p : HS E.fid h0 r m h) {f : Opd} {args : List Opd} (e : wCallv f args call ρ m = some (v, m')) (q : After E h0 r m' v K) : step E ρ' h (.callv f args) K := by
  unfold wCallv at e
  split at e
  · rename_i n first cap vs hf hvs
    obtain ⟨vs', g1, g2⟩ := s.allV hvs
    obtain ⟨f', g3, g4⟩ := s f _ hf
    obtain ⟨n', g, a', c', hn, hg, rfl, ha, hcap⟩ := g4.of_fn
    cases hn
    simp only [step, stepW, g1, g3]
    refine ⟨⟨n, hg⟩, ?_⟩
    exact (hc n _ m v m' r h (a'.toList ++ vs' ++ c'.toList) p ((ha.lift.append g2).append hcap.lift) e).mono (fun v' h' ⟨r', a, b, c⟩ => q v' h' r' a b c) g hg
  · cases e

theorem bytes_rel {fid : Nat → Option FuncId} (l : List UInt8) : All2 (VR0 fid r) (l.map fun b => Value.int .u8 b.toNat) (l.map fun b => Value.int .u8 b.toNat) :=
  All2.refl fun a ha => by
    simp only [List.mem_map] at ha
    obtain ⟨b, _, rfl⟩ := ha
    exact .base (.plain rfl)

theorem BR.grow {fid : Nat → Option FuncId} {vs vs' : List Value} {b es c : Nat} (hv : All2 (VR0 fid r) vs vs') (he : es ≠ 0) (hl : vs'.length ≤ c * es) : BR fid r ⟨b, 0, c * es, es⟩ (.cells es vs) (.own 0 vs' (c * es)) := by
  have := BR.cells (fid := fid) (r := r) (k := ⟨b, 0, c * es, es⟩) (es := es) (vs := vs) (pre := []) (vs' := vs') (rest := []) rfl rfl hv (fun z => absurd z he) (by simpa using hl)
  simpa using this
theorem vr_grow {fid : Nat → Option FuncId} {n b l c es : Nat} (hk : r n = some ⟨b, 0, c * es, es⟩) (he : es ≠ 0) (hl : l ≤ c) (q : Nat) : VR fid r (.slice (some ⟨n, 0, none⟩) l q) (.slice (some ⟨b, 0, none⟩) l c) :=
  .one (.one (.base (.slice (a := ⟨n, 0, none⟩) (k := ⟨b, 0, c * es, es⟩) (n := l) (c := q) (c' := c) (o := 0) rfl hk hl (fun h => absurd h he) (fun _ => ⟨by simp, fun _ => rfl⟩))))

/-- A new block that may grow. -/
theorem grow_sim (p : HS E.fid h0 r m h) {vs vs' : List Value} {es c l b : Nat} (he : es ≠ 0) (hb : h b = none) (hv : All2 (VR0 E.fid r) vs vs') (hl : l ≤ c) (hlen : vs'.length ≤ c * es) (e : newE m (.cells es vs) (fun b => .slice (some ⟨b, 0, none⟩) l 0) = some (v, m')) :
    ∃ r', r.le r' ∧ HS E.fid h0 r' m' (h.set b (.own 0 vs' (c * es))) ∧ VR E.fid r' v (.slice (some ⟨b, 0, none⟩) l c) := by
  obtain ⟨hn, rfl, rfl⟩ := newE_some e
  have hle : r.le (r.more m.next ⟨b, 0, c * es, es⟩) := Rr.le_more (p.fresh _ (Nat.le_refl _))
  obtain ⟨q, _⟩ := p.alloc (k := ⟨b, 0, c * es, es⟩) (x := .cells es vs) (y := .own 0 vs' (c * es)) hn hb (BR.grow (hv.mono fun _ _ x => x.mono hle) he hlen)
  exact ⟨_, hle, q, vr_grow (by simp [Rr.more]) he hl 0⟩

theorem wBytes_sim (s : Sim E.fid r ρ ρ') (p : HS E.fid h0 r m h) {x : Opd} (e : wBytes x call ρ m = some (v, m')) (q : After E h0 r m' v K) : step E ρ' h (.bytesOf x) K := by
  unfold wBytes at e
  split at e
  · rename_i b hb
    simp only [step, stepW, s.str hb]
    intro bn c' hfree hle
    obtain ⟨r', g1, g2, g3⟩ := grow_sim (c := c') p (by omega) hfree (bytes_rel b.data.toList) hle (by simp; exact hle) e
    rw [Nat.mul_one] at g2
    exact q _ _ r' g1 g2 g3
  · cases e

theorem mark_step (s : Sim E.fid r ρ ρ') (p : HS E.fid h0 r m h) {x : Opd} (e : wMark x call ρ m = some (v, m')) : m' = m ∧ ∃ v', markQ ρ' h (.mark x) = some v' ∧ VR E.fid r v v' := by
  unfold wMark at e
  split at e
  · rename_i a n c hx
    obtain ⟨x', h1, h2⟩ := s x _ hx
    obtain ⟨k, c', o, hs, hk, rfl, _⟩ := h2.of_sl
    split at e
    · rename_i es vs hg
      simp only [Option.some.injEq, Prod.mk.injEq] at e
      obtain ⟨rfl, rfl⟩ := e
      obtain ⟨y, hy, hb⟩ := HR.at (p := p.toHR) hk hg
      cases hb with
      | cells he hp hv h00 hz =>
        refine ⟨rfl, _, ?_, h2⟩
        simp only [markQ, h1, markV, hy]
    · cases e
  · cases e

theorem bytes_step (s : Sim E.fid r ρ ρ') (p : HS E.fid h0 r m h) {x : Opd} (e : wBytes x call ρ m = some (v, m')) (c : Nat) :
    ∃ blk mk', allocW c ρ' (.bytesOf x) = some (blk, mk') ∧ ∀ b, h b = none → ∃ r', r.le r' ∧ HS E.fid h0 r' m' (h.set b blk) ∧ VR E.fid r' v (mk' b) := by
  unfold wBytes at e
  split at e
  · rename_i b hb
    simp only [allocW, s.str hb]
    refine ⟨_, _, rfl, fun bn hfree => ?_⟩
    obtain ⟨r', g1, g2, g3⟩ := grow_sim (c := b.size + c) p (by omega) hfree (bytes_rel b.data.toList) (by omega) (by simp) e
    rw [Nat.mul_one] at g2
    exact ⟨r', g1, g2, g3⟩
  · cases e

theorem wMark_sim (s : Sim E.fid r ρ ρ') (p : HS E.fid h0 r m h) {x : Opd} (e : wMark x call ρ m = some (v, m')) (q : After E h0 r m' v K) : step E ρ' h (.mark x) K := by
  unfold wMark at e
  split at e
  · rename_i a n c hx
    obtain ⟨x', h1, h2⟩ := s x _ hx
    obtain ⟨k, c', o, hs, hk, rfl, _⟩ := h2.of_sl
    split at e
    · rename_i es vs hg
      simp only [Option.some.injEq, Prod.mk.injEq] at e
      obtain ⟨rfl, rfl⟩ := e
      obtain ⟨y, hy, hb⟩ := HR.at (p := p.toHR) hk hg
      cases hb with
      | cells he hp hv h00 hz =>
        simp only [step, stepW, h1, hy]
        exact q _ _ r (Rr.le_refl _) p h2
    · cases e
  · cases e
end
end Go.Bb
/- Reckoning: append, copy. -/
namespace Go.Bb
set_option linter.unusedVariables false
set_option linter.unusedSimpArgs false

section
variable {has : Nat → Bool} {E : Env} {h0 : Heap} {r : Rr} {m m' : VM} {h : Heap} {ρ ρ' : Opd → Option Value} {v : Value} {call : CallE} {K : Value → Heap → Prop} {fid : Nat → Option FuncId}

/-- The cells of a slice on the other side. -/
theorem sl_cells (p : HR fid r m h) {a : Addr} {n c : Nat} {v' : Value} (hv : VR fid r (.slice (some a) n c) v') {i size : Nat} (hi : i ≤ n) {l : List Value} (e : cellsE m a (i * size) = some l) :
    ∃ k c' o, a.spot = none ∧ r a.block = some k ∧ v' = .slice (some ⟨k.b, o, none⟩) n c' ∧ ∃ l', hcells h ⟨k.b, o, none⟩ (i * size) = some l' ∧ All2 (VR0 fid r) l l' := by
  obtain ⟨k, c', o, hs, hk, rfl, hn, q0, q1⟩ := hv.of_sl
  refine ⟨k, c', o, hs, hk, rfl, ?_⟩
  obtain ⟨l', g1, g2⟩ := cells_sim p hk e
  by_cases hz : i * size = 0
  · have : l' = [] := by have := hcells_length g1; rw [hz] at this; exact List.eq_nil_of_length_eq_zero this
    subst this
    exact ⟨[], by rw [hz]; rfl, g2⟩
  · have hi0 : i ≠ 0 := by intro h; rw [h] at hz; simp at hz
    have ho : o = a.off + k.sh := by
      by_cases z : k.es = 0
      · exact (q0 z).2
      · exact (q1 z).2 (by omega)
    rw [ho]; exact ⟨l', g1, g2⟩

theorem readX_sim (p : HR fid r m h) {size k : Nat} {x x' : Value} {news : List Value} (hx : VR fid r x x') (e : readXE m size x = some (k, news)) :
    ∃ news', readX h size x' = some (k, news') ∧ All2 (VR0 fid r) news news' ∧ news'.length = k * size := by
  unfold readXE at e
  split at e
  · rw [hx.of_sl0]
    split at e
    · rename_i hn
      simp only [Option.some.injEq, Prod.mk.injEq] at e
      obtain ⟨rfl, rfl⟩ := e
      exact ⟨[], by simp [readX, hn], .nil, by simp⟩
    · cases e
  · rename_i a n c
    rw [Option.map_eq_some_iff] at e
    obtain ⟨l, hl, hh⟩ := e
    simp only [Prod.mk.injEq] at hh
    obtain ⟨rfl, rfl⟩ := hh
    obtain ⟨kk, c', o, hs, hk, rfl, l', g1, g2⟩ := sl_cells p hx (Nat.le_refl _) hl
    exact ⟨l', by simp only [readX, g1, Option.map_some], g2, hcells_length g1⟩
  · rename_i s
    rw [hx.of_str]
    split at e
    · rename_i h1
      simp only [Option.some.injEq, Prod.mk.injEq] at e
      obtain ⟨rfl, rfl⟩ := e
      exact ⟨_, by simp [readX, h1], bytes_rel _, by simp [h1]⟩
    · cases e
  · cases e

/-- A block that grows where it stands. -/
theorem regrow_sim (p : HS E.fid h0 r m h) {a : Addr} {k : Rm} {vs old old' news news' : List Value} {n q c size : Nat} (hk : r a.block = some k) (hx : m.get a.block = some (.cells k.es vs)) (hes : k.es = size) (hpos : size ≠ 0) (hsp : a.spot = none)
    (hw : a.off + k.sh + c * k.es = k.sz) (hfit : n + q ≤ c) (hq : q ≠ 0) (hof : a.off ≤ vs.length) (hold : cellsE m a (n * size) = some old) (hn : All2 (VR0 E.fid r) news news') (hlen : news'.length = q * size)
    (e : newE (m.set a.block none) (.cells size (old ++ news)) (fun b => .slice (some ⟨b, 0, none⟩) (n + q) 0) = some (v, m')) :
    ∃ h', hstore h (((⟨k.b, a.off + k.sh, none⟩ : Addr)).add (n * size)) news' = some h' ∧ ∃ r', r.le r' ∧ HS E.fid h0 r' m' h' ∧ VR E.fid r' v (.slice (some ⟨k.b, a.off + k.sh, none⟩) (n + q) c) := by
  obtain ⟨y, hy, hb⟩ := HR.at (p := p.toHR) hk hx
  cases hb with
  | cells he hp hv h00 hz =>
    rename_i pre vs' rest
    obtain ⟨old', ho1, ho2⟩ := cells_sim p.toHR hk hold
    have hlv := hv.length
    have hmul : (n + q) * size ≤ c * size := Nat.mul_le_mul_right _ hfit
    have hadd : (n + q) * size = n * size + q * size := Nat.add_mul _ _ _
    -- the old cells
    have hon : a.off + n * size ≤ vs'.length := by
      by_cases z : n * size = 0
      · omega
      · have : ∃ j, n * size = j + 1 := ⟨n * size - 1, by omega⟩
        obtain ⟨j, hj⟩ := this
        rw [hj] at hold
        simp only [cellsE] at hold
        rw [hsp] at hold
        simp only [hx] at hold
        obtain ⟨_, hle⟩ := takeE_some hold
        simp only [List.length_drop] at hle
        omega
    have hold' : old' = (vs'.drop a.off).take (n * size) := by
      by_cases z : n * size = 0
      · have := hcells_length ho1
        rw [z] at this ⊢
        simp [List.eq_nil_of_length_eq_zero this]
      · obtain ⟨j, hj⟩ : ∃ j, n * size = j + 1 := ⟨n * size - 1, by omega⟩
        rw [hj] at ho1 ⊢
        simp only [hcells, hy] at ho1
        split at ho1
        · simp only [Option.some.injEq] at ho1
          rw [← ho1, Nat.sub_zero, ← hp, List.append_assoc, List.drop_append, List.drop_eq_nil_of_le (by omega), List.nil_append, Nat.add_sub_cancel, List.drop_append_of_le_length (by omega), List.take_append_of_le_length (by simp; omega)]
        · cases ho1
    rw [hes] at hw
    have hne : news' ≠ [] := by
      intro hh
      have hz0 : q * size = 0 := by rw [← hlen, hh]; rfl
      rcases Nat.mul_eq_zero.1 hz0 with h | h
      · exact hq h
      · exact hpos h
    obtain ⟨u, us, hus⟩ : ∃ u us, news' = u :: us := by
      cases news' with
      | nil => exact absurd rfl hne
      | cons u us => exact ⟨u, us, rfl⟩
    have hst : hstore h (((⟨k.b, a.off + k.sh, none⟩ : Addr)).add (n * size)) news' = some (h.set k.b (.own 0 (splice (pre ++ vs' ++ rest) (a.off + k.sh + n * size) news') k.sz)) := by
      rw [add_none, hus]
      simp only [hstore, hy]
      rw [if_pos, Nat.sub_zero]
      rw [← hus, hlen]
      simp only [List.length_append]
      omega
    refine ⟨_, hst, ?_⟩
    obtain ⟨hn9, rfl, rfl⟩ := newE_some e
    have pk := p.kill hx
    have hnx : (m.set a.block none).next = m.next := rfl
    rw [hnx] at hn9
    let k2 : Rm := ⟨k.b, a.off + k.sh, k.sz, size⟩
    have hle : r.le (r.more m.next k2) := Rr.le_more (p.fresh _ (Nat.le_refl _))
    have key : splice (pre ++ vs' ++ rest) (a.off + k.sh + n * size) news' = (pre ++ vs'.take a.off) ++ (old' ++ news') ++ ((pre ++ vs' ++ rest).drop (a.off + k.sh + n * size + news'.length)) := by
      unfold splice
      rw [hold']
      have : List.take (a.off + k.sh + n * size) (pre ++ vs' ++ rest) = pre ++ vs'.take a.off ++ (vs'.drop a.off).take (n * size) := by
        rw [← hp, show a.off + pre.length + n * size = pre.length + (a.off + n * size) from by omega, List.append_assoc pre, List.take_length_add_append, List.take_append_of_le_length (by omega), List.append_assoc, List.take_add]
      rw [this]
      simp only [List.append_assoc]
    have hb2 : BR E.fid (r.more m.next k2) k2 (.cells size (old ++ news)) (.own 0 (splice (pre ++ vs' ++ rest) (a.off + k.sh + n * size) news') k2.sz) := by
      rw [key]
      have hlo : old'.length = n * size := hcells_length ho1
      refine .cells rfl ?_ ?_ (fun z => absurd z hpos) ?_
      · show (pre ++ vs'.take a.off).length = a.off + k.sh
        simp; omega
      · exact (ho2.append hn).mono fun _ _ x => x.mono hle
      · show (pre ++ vs'.take a.off).length + (old' ++ news').length + ((pre ++ vs' ++ rest).drop (a.off + k.sh + n * size + news'.length)).length ≤ k.sz
        simp only [List.length_append, List.length_take, List.length_drop, hlo, hlen]
        omega
    obtain ⟨q1, _⟩ := HS.more pk (x := .cells size (old ++ news)) (k := k2) (y := .own 0 (splice (pre ++ vs' ++ rest) (a.off + k.sh + n * size) news') k2.sz) (by rw [hnx]; exact hn9)
      (fun c z l hz hl hh => by
        have hc : c ≠ a.block := by
          intro hc; subst hc
          rw [VM.get_set (by have := p.lt hx; have := p.room; omega)] at hz
          simp at hz
        have hz' : m.get c = some z := by
          rw [VM.get_set (by have := p.lt hx; have := p.room; omega), if_neg hc] at hz; exact hz
        exact hc (p.inj c a.block z _ l k hz' hx hl hk hh)) (show h0 k2.b = none from p.own a.block _ k hx hk) hb2
    refine ⟨_, hle, q1, ?_⟩
    refine .one (.one (.base (.slice (a := ⟨(m.set a.block none).next, 0, none⟩) (k := k2) (n := n + q) (c := 0) (c' := c) (o := a.off + k.sh) rfl (by rw [hnx]; simp [Rr.more]) hfit (fun z => absurd z hpos) (fun _ => ⟨?_, fun _ => by show a.off + k.sh = 0 + (a.off + k.sh); omega⟩))))
    show 0 + (a.off + k.sh) + c * size = k.sz
    omega

theorem appE_sim (p : HS E.fid h0 r m h) {size bytes n c q c' : Nat} {base base' : Option Addr} {news news' : List Value} (hpos : size ≠ 0) (hs : VR E.fid r (.slice base n c) (.slice base' n c')) (hn : All2 (VR0 E.fid r) news news') (hlen : news'.length = q * size)
    (e : appE size bytes m base n c q news = some (v, m')) (hq : After E h0 r m' v K) : appendW size bytes h base' n c' q news' K := by
  have h1 := one_all hn
  unfold appE at e
  split at e
  · -- nil
    have hh := hs.of_sl0
    simp only [Value.slice.injEq] at hh
    obtain ⟨rfl, _, rfl⟩ := hh
    cases hk : Nat.beq q 0 with
    | true =>
      rw [hk] at e; simp only [cond_true] at e
      have hk := Nat.eq_of_beq_eq_true hk
      subst hk
      cases hb : Nat.ble n c' with
      | false => rw [hb] at e; cases e
      | true =>
        rw [hb] at e; simp only [cond_true, Option.some.injEq, Prod.mk.injEq] at e
        obtain ⟨rfl, rfl⟩ := e
        have hb := Nat.le_of_ble_eq_true hb
        unfold appendW
        rw [if_pos (by omega)]
        exact hq _ _ r (Rr.le_refl _) p hs
    | false =>
      rw [hk] at e; simp only [cond_false] at e
      have hk : q ≠ 0 := fun z => by rw [z] at hk; cases hk
      cases hb : (Nat.beq n 0 && Nat.beq c' 0 && Nat.ble (q * bytes) 140737488355328 && Nat.ble q 9223372036854775807) with
      | false => rw [hb] at e; cases e
      | true =>
        rw [hb] at e; simp only [cond_true] at e
        simp only [Bool.and_eq_true] at hb
        obtain ⟨⟨⟨b1, b2⟩, b3⟩, b4⟩ := hb
        have b1 := Nat.eq_of_beq_eq_true b1
        have b2 := Nat.eq_of_beq_eq_true b2
        have b3 := Nat.le_of_ble_eq_true b3
        have b4 := Nat.le_of_ble_eq_true b4
        subst b1; subst b2
        unfold appendW
        rw [if_neg (by omega)]
        refine ⟨by rw [Nat.zero_add]; exact b3, by omega, ?_⟩
        simp only [oldOf, if_true]
        intro b c' hfree hle
        rw [Nat.zero_add] at hle ⊢
        obtain ⟨r', g1, g2, g3⟩ := grow_sim (c := c') p hpos hfree hn hle (by rw [hlen]; exact Nat.mul_le_mul_right _ hle) e
        exact hq _ _ r' g1 (by simpa using g2) g3
  · rename_i a
    obtain ⟨k, c2, o, hsp, hkb, hh, hnc, q0, q1⟩ := hs.of_sl
    simp only [Value.slice.injEq] at hh
    obtain ⟨rfl, _, rfl⟩ := hh
    cases hk : Nat.beq q 0 with
    | true =>
      rw [hk] at e; simp only [cond_true, Option.some.injEq, Prod.mk.injEq] at e
      obtain ⟨rfl, rfl⟩ := e
      have hk := Nat.eq_of_beq_eq_true hk
      subst hk
      rw [Nat.zero_mul] at hlen
      have := List.eq_nil_of_length_eq_zero hlen
      subst this
      unfold appendW
      rw [if_pos (by omega)]
      simp only [hstore]
      exact ⟨by simp, hq _ _ r (Rr.le_refl _) p hs⟩
    | false =>
      rw [hk] at e; simp only [cond_false] at e
      have hk : q ≠ 0 := fun z => by rw [z] at hk; cases hk
      cases hb : (Nat.ble ((n + q) * bytes) 140737488355328 && Nat.ble (n + q) 9223372036854775807) with
      | false => rw [hb] at e; cases e
      | true =>
        rw [hb] at e; simp only [cond_true] at e
        simp only [Bool.and_eq_true] at hb
        have b1 := Nat.le_of_ble_eq_true hb.1
        have b2 := Nat.le_of_ble_eq_true hb.2
        -- the case of a fresh block
        have fresh : ∀ (m2 : VM) (old : List Value), HS E.fid h0 r m2 h → ¬ (n + q ≤ c') → cellsE m a (n * size) = some old →
            newE m2 (.cells size (old ++ news)) (fun b => .slice (some ⟨b, 0, none⟩) (n + q) 0) = some (v, m') → appendW size bytes h (some ⟨k.b, o, none⟩) n c' q news' K := by
          intro m2 old p2 hnf hold e
          obtain ⟨k', c3, o', hsp', hk', hv', old', g1, g2⟩ := sl_cells p.toHR hs (Nat.le_refl _) hold
          simp only [Value.slice.injEq, Option.some.injEq, Addr.mk.injEq, true_and, and_true] at hv'
          obtain ⟨⟨hb1, rfl⟩, rfl⟩ := hv'
          rw [← hb1] at g1
          unfold appendW
          rw [if_neg hnf]
          refine ⟨b1, b2, ?_⟩
          simp only [oldOf, g1]
          intro b c3 hfree hle
          obtain ⟨r', w1, w2, w3⟩ := grow_sim (c := c3) p2 hpos hfree (g2.append hn) hle (by simp only [List.length_append, hcells_length g1, hlen]; rw [← Nat.add_mul]; exact Nat.mul_le_mul_right _ hle) e
          exact hq _ _ r' w1 w2 w3
        unfold appA at e
        split at e
        · rename_i es vs hx
          have hes : k.es = es := by
            obtain ⟨y, hy, hb⟩ := HR.at (p := p.toHR) hkb hx
            cases hb with
            | cells he _ _ _ _ => exact he
          cases es with
          | zero =>
            simp only at e
            obtain ⟨rfl, rfl⟩ := q0 hes
            cases hf : Nat.ble (n + q) c' with
            | true =>
              rw [hf] at e; simp only [cond_true] at e
              have hf := Nat.le_of_ble_eq_true hf
              rw [Option.map_eq_some_iff] at e
              obtain ⟨m2, hm, hh⟩ := e
              simp only [Prod.mk.injEq] at hh
              obtain ⟨rfl, rfl⟩ := hh
              have hk2 : r (a.add (n * size)).block = some k := by rw [add_block]; exact hkb
              obtain ⟨h', g1, g2⟩ := store_sim p hk2 hn hm
              unfold appendW
              rw [if_pos hf]
              simp only
              have : (⟨k.b, a.off + k.sh, none⟩ : Addr).add (n * size) = k.at (a.add (n * size)) := by
                rw [add_none, Rm.at, add_off]; congr 1; omega
              rw [this, g1]
              exact ⟨h1, hq _ _ r (Rr.le_refl _) g2 (.one (.one (.base (.slice hsp hkb hf (fun _ => ⟨rfl, rfl⟩) (fun z => absurd hes z)))))⟩
            | false =>
              rw [hf] at e; simp only [cond_false] at e
              have hf : ¬ (n + q ≤ c') := fun z => by rw [Nat.ble_eq_true_of_le z] at hf; cases hf
              split at e
              · rename_i old hold
                exact fresh m old p hf hold e
              · cases e
          | succ es =>
            simp only at e
            cases hf : (Nat.beq (es + 1) size && Nat.ble a.off vs.length) with
            | false => rw [hf] at e; cases e
            | true =>
              rw [hf] at e; simp only [cond_true] at e
              simp only [Bool.and_eq_true] at hf
              have f1 := Nat.eq_of_beq_eq_true hf.1
              have f2 := Nat.le_of_ble_eq_true hf.2
              obtain ⟨w1, w2⟩ := q1 (by omega)
              split at e
              · rename_i old hold
                by_cases hfit : n + q ≤ c'
                · have ho := w2 (by omega)
                  subst ho
                  obtain ⟨h', g1, r', g2, g3, g4⟩ := regrow_sim p (a := a) (n := n) (q := q) (c := c') (size := size) (old' := old) hkb (by rw [hes]; exact hx) (by omega) hpos hsp w1 hfit hk f2 hold hn hlen e
                  unfold appendW
                  rw [if_pos hfit]
                  simp only
                  rw [g1]
                  exact ⟨h1, hq _ _ r' g2 g3 g4⟩
                · exact fresh _ old (p.kill hx) hfit hold e
              · cases e
        · cases e

theorem sl_shape {base : Option Addr} {n c : Nat} {v' : Value} (hv : VR fid r (.slice base n c) v') : ∃ base' c', v' = .slice base' n c' := by
  cases base with
  | none => exact ⟨none, c, hv.of_sl0⟩
  | some a => obtain ⟨k, c', o, _, _, rfl, _⟩ := hv.of_sl; exact ⟨_, _, rfl⟩

theorem wAppend_sim (s : Sim E.fid r ρ ρ') (p : HS E.fid h0 r m h) {size bytes : Nat} {x y : Opd} (e : wAppend size bytes x y call ρ m = some (v, m')) (q : After E h0 r m' v K) : step E ρ' h (.append size bytes x y) K := by
  unfold wAppend at e
  split at e
  · rename_i base n c yv hx hy
    obtain ⟨x', h1, h2⟩ := s x _ hx
    obtain ⟨y', h3, h4⟩ := s y _ hy
    obtain ⟨base', c', rfl⟩ := sl_shape h2
    split at e
    · rename_i k news hr
      obtain ⟨news', g1, g2, g3⟩ := readX_sim p.toHR h4 hr
      cases hc : (news.all one && Nat.blt 0 size) with
      | false => rw [hc] at e; cases e
      | true =>
        rw [hc] at e; simp only [cond_true] at e
        simp only [Bool.and_eq_true] at hc
        have hpos : size ≠ 0 := by have := hc.2; simp [Nat.blt] at this; omega
        simp only [step, stepW, h1, h3, g1]
        exact appE_sim p hpos h2 g2 g3 e q
    · cases e
  · cases e

theorem wAppendZ_sim (s : Sim E.fid r ρ ρ') (p : HS E.fid h0 r m h) {size bytes : Nat} {z : List Value} {x y : Opd} (e : wAppendZ size bytes z x y call ρ m = some (v, m')) (q : After E h0 r m' v K) : step E ρ' h (.appendZ size bytes z x y) K := by
  unfold wAppendZ at e
  split at e
  · rename_i base n c kk k hx hy
    obtain ⟨x', h1, h2⟩ := s x _ hx
    have h3 := s.int hy
    obtain ⟨base', c', rfl⟩ := sl_shape h2
    cases hc : (decide (0 ≤ k ∧ k ≤ 9223372036854775807 ∧ k * bytes ≤ 281474976710656) && (z.all plain && (Nat.beq z.length size && Nat.blt 0 size))) with
    | false => rw [hc] at e; cases e
    | true =>
      rw [hc] at e; simp only [cond_true] at e
      simp only [Bool.and_eq_true, decide_eq_true_eq] at hc
      obtain ⟨⟨b1, b2, b3⟩, b4, b5, b6⟩ := hc
      have b5 := Nat.eq_of_beq_eq_true b5
      have hpos : size ≠ 0 := by simp [Nat.blt] at b6; omega
      simp only [step, stepW, h1, h3]
      refine ⟨b1, b2, b3, ?_⟩
      exact appE_sim p hpos h2 (plain_refl (all_rep b4)) (by rw [len_rep, b5]) e q
  · cases e

theorem wCopy_sim (s : Sim E.fid r ρ ρ') (p : HS E.fid h0 r m h) {size : Nat} {x y : Opd} (e : wCopy size x y call ρ m = some (v, m')) (q : After E h0 r m' v K) : step E ρ' h (.copy size x y) K := by
  -- the cells go where they shall
  have put : ∀ (a : Addr) (n c i : Nat) (d' : Value) (l l' : List Value) (m2 : VM), VR E.fid r (.slice (some a) n c) d' → All2 (VR0 E.fid r) l l' → l'.length = i * size → i ≤ n → storeE m a l = some m2 →
      ∃ b' c' h', d' = .slice (some b') n c' ∧ hstore h b' l' = some h' ∧ HS E.fid h0 r m2 h' := by
    intro a n c i d' l l' m2 hd hl hlen hin hst
    obtain ⟨k, c', o, hsp, hk, rfl, hn, q0, q1⟩ := hd.of_sl
    obtain ⟨h', g1, g2⟩ := store_sim p hk hl hst
    by_cases z : l' = []
    · subst z
      simp only [hstore, Option.some.injEq] at g1
      subst g1
      exact ⟨_, _, _, rfl, rfl, g2⟩
    · have : i ≠ 0 := by intro hh; rw [hh, Nat.zero_mul] at hlen; exact z (List.eq_nil_of_length_eq_zero hlen)
      have ho : o = a.off + k.sh := by
        by_cases z : k.es = 0
        · exact (q0 z).2
        · exact (q1 z).2 (by omega)
      subst ho
      exact ⟨_, _, _, rfl, g1, g2⟩
  unfold wCopy at e
  split at e
  · rename_i base n cd b k cs hx hy
    obtain ⟨x', h1, h2⟩ := s x _ hx
    obtain ⟨y', h3, h4⟩ := s y _ hy
    split at e
    · rename_i l hl
      obtain ⟨kk, c', o, hsp, hk, rfl, l', g1, g2⟩ := sl_cells p.toHR h4 (i := min k n) (by omega) hl
      cases hc : l.all one with
      | false => rw [hc] at e; cases e
      | true =>
        rw [hc] at e; simp only [cond_true] at e
        split at e
        · rw [h2.of_sl0] at h1
          simp only [Option.some.injEq, Prod.mk.injEq] at e
          obtain ⟨rfl, rfl⟩ := e
          simp only [step, stepW, h1, h3, g1]
          exact ⟨one_all g2, q _ _ r (Rr.le_refl _) p .int⟩
        · rename_i a
          rw [Option.map_eq_some_iff] at e
          obtain ⟨m2, hm, hh⟩ := e
          simp only [Prod.mk.injEq] at hh
          obtain ⟨rfl, rfl⟩ := hh
          obtain ⟨b', c2, h', rfl, w1, w2⟩ := put a n cd (min k n) x' l l' m2 h2 g2 (hcells_length g1) (by omega) hm
          simp only [step, stepW, h1, h3, g1, w1]
          exact ⟨one_all g2, q _ _ r (Rr.le_refl _) w2 .int⟩
    · cases e
  · rename_i base n cd k cs hx hy
    obtain ⟨x', h1, h2⟩ := s x _ hx
    obtain ⟨y', h3, h4⟩ := s y _ hy
    rw [h4.of_sl0] at h3
    obtain ⟨base', c', rfl⟩ := sl_shape h2
    split at e
    · rename_i hk
      simp only [Option.some.injEq, Prod.mk.injEq] at e
      obtain ⟨rfl, rfl⟩ := e
      simp only [step, stepW, h1, h3]
      exact ⟨hk, q _ _ r (Rr.le_refl _) p .int⟩
    · cases e
  · rename_i base n cd b hx hy
    obtain ⟨x', h1, h2⟩ := s x _ hx
    have h3 := s.str hy
    split at e
    · rw [h2.of_sl0] at h1
      simp only [Option.some.injEq, Prod.mk.injEq] at e
      obtain ⟨rfl, rfl⟩ := e
      simp only [step, stepW, h1, h3]
      exact q _ _ r (Rr.le_refl _) p .int
    · rename_i a
      split at e
      · rename_i hsz
        rw [Option.map_eq_some_iff] at e
        obtain ⟨m2, hm, hh⟩ := e
        simp only [Prod.mk.injEq] at hh
        obtain ⟨rfl, rfl⟩ := hh
        obtain ⟨b', c2, h', rfl, w1, w2⟩ := put a n cd (min b.size n) x' _ _ m2 h2 (bytes_rel _) (by simp [hsz]) (by omega) hm
        simp only [step, stepW, h1, h3, w1]
        exact ⟨hsz, q _ _ r (Rr.le_refl _) w2 .int⟩
      · cases e
  · cases e
end
end Go.Bb
/- Reckoning: maps written; every operation. -/
namespace Go.Bb
set_option linter.unusedVariables false
set_option linter.unusedSimpArgs false

section
variable {has : Nat → Bool} {E : Env} {h0 : Heap} {r : Rr} {m m' : VM} {h : Heap} {ρ ρ' : Opd → Option Value} {v : Value} {call : CallE} {K : Value → Heap → Prop} {fid : Nat → Option FuncId}

theorem All2.modify {α β : Type} {R : α → β → Prop} {f : α → α} {g : β → β} (hfg : ∀ a b, R a b → R (f a) (g b)) : ∀ {l : List α} {l' : List β} (i : Nat), All2 R l l' → All2 R (l.modify i f) (l'.modify i g)
  | _, _, i, .nil => by simp; exact .nil
  | _, _, 0, .cons x t => by simp; exact .cons (hfg _ _ x) t
  | _, _, i + 1, .cons x t => by simp; exact .cons x (All2.modify hfg i t)
theorem All2.erase {α β : Type} {R : α → β → Prop} : ∀ {l : List α} {l' : List β} (i : Nat), All2 R l l' → All2 R (l.eraseIdx i) (l'.eraseIdx i)
  | _, _, i, .nil => by simp; exact .nil
  | _, _, 0, .cons x t => by simp; exact t
  | _, _, i + 1, .cons x t => by simp; exact .cons x (All2.erase i t)

theorem wMupd_sim (s : Sim E.fid r ρ ρ') (p : HS E.fid h0 r m h) {kt : KeyT} {x k y : Opd} (e : wMupd kt x k y call ρ m = some (v, m')) (q : After E h0 r m' v K) : step E ρ' h (.mupd kt x k y) K := by
  unfold wMupd at e
  split at e
  · rename_i b kv vv hx hk hy
    obtain ⟨x', h1, h2⟩ := s x _ hx
    obtain ⟨k', h3, h4⟩ := s k _ hk
    obtain ⟨y', h5, h6⟩ := s y _ hy
    obtain ⟨kk, hb, rfl⟩ := h2.of_map
    split at e
    · rename_i es c hg
      cases hc : (constOk kv && noTup vv) with
      | false => rw [hc] at hg; cases hg
      | true =>
        rw [hc] at hg; simp only [cond_true] at hg
        simp only [Bool.and_eq_true] at hc
        rw [h4.of_const hc.1] at h3
        have hv1 := h6.one' hc.2
        obtain ⟨z, hz, hbr⟩ := HR.at (p := p.toHR) hb hg
        cases hbr with
        | map he =>
          rename_i es'
          split at e
          · rename_i hf hfi
            simp only [Option.some.injEq, Prod.mk.injEq] at e
            obtain ⟨rfl, rfl⟩ := e
            rcases findV_sim he hfi with ⟨g, _⟩ | ⟨j, w, w', g, g1, g2⟩
            · cases g
            · simp only [Option.some.injEq, Prod.mk.injEq] at g
              obtain ⟨rfl, rfl⟩ := g
              simp only [step, stepW, h1, h3, h5, hz, hf, g1]
              refine q _ _ r (Rr.le_refl _) (p.put hg hb (.map ?_)) undef_rel
              rw [Array.toList_modify]
              exact he.modify (fun a b hab => ⟨rfl, hv1, hab.born⟩) _
          · rename_i hf hfi
            simp only [Option.some.injEq, Prod.mk.injEq] at e
            obtain ⟨rfl, rfl⟩ := e
            rcases findV_sim he hfi with ⟨_, g1⟩ | ⟨j, w, w', g, _, _⟩
            · simp only [step, stepW, h1, h3, h5, hz, hf, g1]
              refine q _ _ r (Rr.le_refl _) (p.put hg hb (.map ?_)) undef_rel
              rw [Array.toList_push]
              exact he.append (.cons ⟨rfl, hv1, rfl⟩ .nil)
            · cases g
          · cases e
    · cases e
  · cases e

theorem wMdel_sim (s : Sim E.fid r ρ ρ') (p : HS E.fid h0 r m h) {kt : KeyT} {x k : Opd} (e : wMdel kt x k call ρ m = some (v, m')) (q : After E h0 r m' v K) : step E ρ' h (.mdel kt x k) K := by
  unfold wMdel at e
  split at e
  · rename_i b kv hx hk
    obtain ⟨x', h1, h2⟩ := s x _ hx
    obtain ⟨k', h3, h4⟩ := s k _ hk
    obtain ⟨kk, hb, rfl⟩ := h2.of_map
    split at e
    · rename_i es c hg
      cases hc : constOk kv with
      | false => rw [hc] at hg; cases hg
      | true =>
        rw [hc] at hg; simp only [cond_true] at hg
        rw [h4.of_const hc] at h3
        obtain ⟨z, hz, hbr⟩ := HR.at (p := p.toHR) hb hg
        cases hbr with
        | map he =>
          rename_i es'
          split at e
          · rename_i hf hfi
            simp only [Option.some.injEq, Prod.mk.injEq] at e
            obtain ⟨rfl, rfl⟩ := e
            rcases findV_sim he hfi with ⟨g, _⟩ | ⟨j, w, w', g, g1, g2⟩
            · cases g
            · simp only [Option.some.injEq, Prod.mk.injEq] at g
              obtain ⟨rfl, rfl⟩ := g
              simp only [step, stepW, h1, h3, hz, hf, g1]
              refine q _ _ r (Rr.le_refl _) (p.put hg hb (.map ?_)) undef_rel
              rw [Array.toList_eraseIdxIfInBounds]
              exact he.erase _
          · rename_i hf hfi
            simp only [Option.some.injEq, Prod.mk.injEq] at e
            obtain ⟨rfl, rfl⟩ := e
            rcases findV_sim he hfi with ⟨_, g1⟩ | ⟨j, w, w', g, _, _⟩
            · simp only [step, stepW, h1, h3, hz, hf, g1]
              exact q _ _ r (Rr.le_refl _) (p.put hg hb (.map he)) undef_rel
            · cases g
          · cases e
    · cases e
  · cases e

theorem All2.filter {α β : Type} {R : α → β → Prop} {f : α → Bool} {g : β → Bool} (hfg : ∀ a b, R a b → f a = g b) : ∀ {l : List α} {l' : List β}, All2 R l l' → All2 R (l.filter f) (l'.filter g)
  | _, _, .nil => .nil
  | _, _, .cons (a := a) (b := b) x t => by
    rw [List.filter_cons, List.filter_cons, hfg a b x]
    cases g b with
    | true => exact .cons x (t.filter hfg)
    | false => exact t.filter hfg
theorem All2.find {α β : Type} {R : α → β → Prop} {f : α → Bool} {g : β → Bool} (hfg : ∀ a b, R a b → f a = g b) : ∀ {l : List α} {l' : List β} {a : α}, All2 R l l' → l.find? f = some a → ∃ b, l'.find? g = some b ∧ R a b
  | _, _, _, .nil, h => by cases h
  | _, _, _, .cons (a := a) (b := b) x t, h => by
    rw [List.find?_cons] at h ⊢
    rw [← hfg a b x]
    cases hf : f a with
    | true => rw [hf] at h; simp only [Option.some.injEq] at h; subst h; exact ⟨b, rfl, x⟩
    | false => rw [hf] at h; exact t.find hfg h
theorem All2.all {α β : Type} {R : α → β → Prop} {f : α → Bool} {P : β → Prop} (hfg : ∀ a b, R a b → f a = true → P b) : ∀ {l : List α} {l' : List β}, All2 R l l' → l.all f = true → ∀ b ∈ l', P b
  | _, _, .nil, _ => by simp
  | _, _, .cons x t, h => by
    simp only [List.all_cons, Bool.and_eq_true] at h
    intro b hb
    rcases List.mem_cons.1 hb with rfl | hb
    · exact hfg _ _ x h.1
    · exact t.all hfg h.2 b hb

theorem wRange_sim (s : Sim E.fid r ρ ρ') (p : HS E.fid h0 r m h) {x : Opd} (e : wRange x call ρ m = some (v, m')) (q : After E h0 r m' v K) : step E ρ' h (.rangeM x) K := by
  unfold wRange at e
  split at e
  · rename_i b hx
    obtain ⟨x', h1, h2⟩ := s x _ hx
    obtain ⟨kk, hb, rfl⟩ := h2.of_map
    split at e
    · rename_i es c hg
      obtain ⟨z, hz, hbr⟩ := HR.at (p := p.toHR) hb hg
      cases hbr with
      | map he =>
        rename_i es'
        obtain ⟨hn, rfl, rfl⟩ := newE_some e
        have hma : mapAt h kk.b = some (es', c) := by simp [mapAt, hz]
        simp only [step, stepW, h1, hma]
        intro bn hfree
        have hle : r.le (r.more m.next ⟨bn, 0, 0, 0⟩) := Rr.le_more (p.fresh _ (Nat.le_refl _))
        obtain ⟨g, _⟩ := p.alloc (k := ⟨bn, 0, 0, 0⟩) (x := .iter b c [] c) (y := .obj (.mapIter (some kk.b) c #[] c)) hn hfree (BR.iter (seen := []) (hle _ _ hb) rfl)
        exact q _ _ _ hle g (vr_ptr (sz := 0) (by simp [Rr.more]))
    · cases e
  · cases e

theorem wNext_sim (s : Sim E.fid r ρ ρ') (p : HS E.fid h0 r m h) {x : Opd} (e : wNext x call ρ m = some (v, m')) (q : After E h0 r m' v K) : step E ρ' h (.nextM x) K := by
  unfold wNext at e
  split at e
  · rename_i rb hx
    obtain ⟨x', h1, h2⟩ := s x _ hx
    obtain ⟨k, hs, hk, rfl⟩ := h2.of_ptr
    split at e
    · rename_i b since seen c0 hr
      obtain ⟨z, hz, hbr⟩ := HR.at (p := p.toHR) hk hr
      cases hbr with
      | iter hm hsh =>
        rename_i l
        split at e
        · rename_i es clock hg
          obtain ⟨z2, hz2, hbr2⟩ := HR.at (p := p.toHR) hm hg
          cases hbr2 with
          | map he =>
            rename_i es'
            have hma : mapAt h l.b = some (es', clock) := by simp [mapAt, hz2]
            cases hcond : ((es.all fun e => Nat.blt e.born since) && Nat.ble since c0) with
            | false => rw [hcond] at e; cases e
            | true =>
              rw [hcond] at e; simp only [cond_true] at e
              simp only [Bool.and_eq_true] at hcond
              have hlt : ∀ e ∈ es'.toList, e.born < since := he.all (fun a b x hb => by rw [x.born]; exact Nat.le_of_ble_eq_true hb) hcond.1
              have hle := Nat.le_of_ble_eq_true hcond.2
              have hleft : All2 (ER E.fid r) (leftE es seen) (leftOf es' seen.toArray).toList := by
                unfold leftE leftOf
                rw [Array.toList_filter]
                exact he.filter fun a b x => by rw [x.born]; simp
              simp only [hsh, Nat.add_zero] at h1
              simp only [step, stepW, h1, hz, hma]
              refine ⟨hlt, hle, ?_⟩
              generalize (leftOf es' seen.toArray) = L at hleft
              split at e
              · rename_i hl
                rw [hl] at hleft
                simp only [Option.some.injEq, Prod.mk.injEq] at e
                obtain ⟨rfl, rfl⟩ := e
                have hL : L.toList = [] := by
                  generalize L.toList = LL at hleft
                  cases hleft; rfl
                refine ⟨fun _ => q _ _ r (Rr.le_refl _) p (.tup (.cons (.one (.base (.plain rfl))) .nil)), ?_⟩
                rw [hL]; simp
              · rename_i en hl
                rw [hl] at hleft
                cases hck : constOk en.key with
                | false => rw [hck] at e; cases e
                | true =>
                  rw [hck] at e; simp only [cond_true, Option.some.injEq, Prod.mk.injEq] at e
                  obtain ⟨rfl, rfl⟩ := e
                  obtain ⟨en', hL, hen⟩ : ∃ en', L.toList = [en'] ∧ ER E.fid r en en' := by
                    generalize L.toList = LL at hleft
                    cases hleft with
                    | cons x t => cases t; exact ⟨_, rfl, x⟩
                  refine ⟨fun h0 => ?_, ?_⟩
                  · have := congrArg List.length hL
                    simp at this
                    omega
                  · rw [hL]
                    intro e2 he2
                    rw [List.mem_singleton] at he2
                    subst he2
                    refine q _ _ r (Rr.le_refl _) (p.put hr hk ?_) (.tup (.cons (.one (.base (.plain rfl))) (.cons (by rw [hen.key]; exact VR1.const hck) (.cons hen.val .nil))))
                    have hb2 : BR E.fid r k (.iter b since (seen ++ [en.born]) clock) (.obj (.mapIter (some l.b) since (seen ++ [en.born]).toArray clock)) := BR.iter hm hsh
                    rw [hen.born]
                    simpa using hb2
              · cases e
        · cases e
    · cases e
  · cases e

theorem wEntry_sim (s : Sim E.fid r ρ ρ') (p : HS E.fid h0 r m h) {x : Opd} (e : wEntry x call ρ m = some (v, m')) (q : After E h0 r m' v K) : step E ρ' h (.entryM x) K := by
  unfold wEntry at e
  split at e
  · rename_i rb hx
    obtain ⟨x', h1, h2⟩ := s x _ hx
    obtain ⟨k, hs, hk, rfl⟩ := h2.of_ptr
    split at e
    · rename_i b since seen c0 hr
      obtain ⟨z, hz, hbr⟩ := HR.at (p := p.toHR) hk hr
      cases hbr with
      | iter hm hsh =>
        rename_i l
        split at e
        · rename_i es clock hg
          obtain ⟨z2, hz2, hbr2⟩ := HR.at (p := p.toHR) hm hg
          cases hbr2 with
          | map he =>
            rename_i es'
            have hma : mapAt h l.b = some (es', clock) := by simp [mapAt, hz2]
            split at e
            · rename_i stamp hst
              split at e
              · rename_i en hf
                cases hcond : (Nat.beq clock c0 && constOk en.key) with
                | false => rw [hcond] at e; cases e
                | true =>
                  rw [hcond] at e; simp only [cond_true, Option.some.injEq, Prod.mk.injEq] at e
                  obtain ⟨rfl, rfl⟩ := e
                  simp only [Bool.and_eq_true] at hcond
                  have hc := Nat.eq_of_beq_eq_true hcond.1
                  obtain ⟨en', hf', hen⟩ := he.find (g := fun e => e.born == stamp) (fun a b x => by rw [x.born]; exact Bool.eq_iff_iff.2 (by rw [Nat.beq_eq, beq_iff_eq])) hf
                  have hb : seen.toArray.back? = some stamp := by rw [List.back?_toArray]; exact hst
                  have hff : es'.find? (fun e => e.born == stamp) = some en' := by rw [← Array.find?_toList]; exact hf'
                  simp only [hsh, Nat.add_zero] at h1
                  simp only [step, stepW, h1, hz, hma, hb, hff]
                  refine ⟨hc, q _ _ r (Rr.le_refl _) p (.tup (.cons ?_ (.cons hen.val .nil)))⟩
                  rw [hen.key]; exact VR1.const hcond.2
              · cases e
            · cases e
        · cases e
    · cases e
  · cases e

theorem wPure_sim (hh : Has has E.fid) (s : Sim E.fid r ρ ρ') (p : HS E.fid h0 r m h) {op : AOp} (hq : op.quiet = true) (e : wPure (boxP has op).f call ρ m = some (v, m')) (q : After E h0 r m' v K) : step E ρ' h op K := by
  unfold wPure at e
  split at e
  · rename_i u hu
    simp only [Option.some.injEq, Prod.mk.injEq] at e
    obtain ⟨rfl, rfl⟩ := e
    obtain ⟨v', h1, h2⟩ := pure_sim hh s p.toHR hu
    rw [step_F hq, h1, z19]
    exact q _ _ r (Rr.le_refl _) p h2
  · cases e

theorem step_sim (hh : Has has E.fid) (hc : CallsOk E h0 call) (s : Sim E.fid r ρ ρ') (p : HS E.fid h0 r m h) {op : AOp} (e : (boxW has op).f call ρ m = some (v, m')) (q : After E h0 r m' v K) : step E ρ' h op K := by
  cases op with
  | alloc z => exact step_alloc_sim (call := call) (f := aAlloc z) rfl rfl (fun _ _ => aAlloc_sim) p e q
  | box x => exact step_alloc_sim (call := call) (f := aBox x) rfl rfl (fun _ _ => aBox_sim s) p e q
  | bslice n size z ps => exact step_alloc_sim (call := call) (f := aBslice n size z ps) rfl rfl (fun _ _ => aBslice_sim s) p e q
  | mslice b z l c => exact step_alloc_sim (call := call) (f := aMslice b z l c) rfl rfl (fun _ _ => aMslice_sim s) p e q
  | mmap => exact step_alloc_sim (call := call) (ρ := ρ) (f := aMmap) rfl rfl (fun _ _ => aMmap_sim) p e q
  | store => exact wStore_sim (call := call) s p e q
  | call => exact wCall_sim hc s p e q
  | callv => exact wCallv_sim hc s p e q
  | append => exact wAppend_sim (call := call) s p e q
  | appendZ => exact wAppendZ_sim (call := call) s p e q
  | copy => exact wCopy_sim (call := call) s p e q
  | mupd => exact wMupd_sim (call := call) s p e q
  | mdel => exact wMdel_sim (call := call) s p e q
  | bytesOf => exact wBytes_sim (call := call) s p e q
  | mark => exact wMark_sim (call := call) s p e q
  | rangeM => exact wRange_sim (call := call) s p e q
  | nextM => exact wNext_sim (call := call) s p e q
  | entryM => exact wEntry_sim (call := call) s p e q
  | bad => cases e
  | mv => exact wPure_sim (call := call) hh s p rfl e q
  | num => exact wPure_sim (call := call) hh s p rfl e q
  | pick => exact wPure_sim (call := call) hh s p rfl e q
  | load => exact wPure_sim (call := call) hh s p rfl e q
  | nilc => exact wPure_sim (call := call) hh s p rfl e q
  | bin => exact wPure_sim (call := call) hh s p rfl e q
  | eqv => exact wPure_sim (call := call) hh s p rfl e q
  | eqa => exact wPure_sim (call := call) hh s p rfl e q
  | un => exact wPure_sim (call := call) hh s p rfl e q
  | conv => exact wPure_sim (call := call) hh s p rfl e q
  | strOf => exact wPure_sim (call := call) hh s p rfl e q
  | strId => exact wPure_sim (call := call) hh s p rfl e q
  | faddr => exact wPure_sim (call := call) hh s p rfl e q
  | field => exact wPure_sim (call := call) hh s p rfl e q
  | iaddrA => exact wPure_sim (call := call) hh s p rfl e q
  | iaddrS => exact wPure_sim (call := call) hh s p rfl e q
  | idxA => exact wPure_sim (call := call) hh s p rfl e q
  | idxS => exact wPure_sim (call := call) hh s p rfl e q
  | ext => exact wPure_sim (call := call) hh s p rfl e q
  | lenS => exact wPure_sim (call := call) hh s p rfl e q
  | lenStr => exact wPure_sim (call := call) hh s p rfl e q
  | capS => exact wPure_sim (call := call) hh s p rfl e q
  | mn => exact wPure_sim (call := call) hh s p rfl e q
  | mx => exact wPure_sim (call := call) hh s p rfl e q
  | slStr => exact wPure_sim (call := call) hh s p rfl e q
  | slSl => exact wPure_sim (call := call) hh s p rfl e q
  | slArr => exact wPure_sim (call := call) hh s p rfl e q
  | arrOf => exact wPure_sim (call := call) hh s p rfl e q
  | fn => exact wPure_sim (call := call) hh s p rfl e q
  | build => exact wPure_sim (call := call) hh s p rfl e q
  | prim => exact wPure_sim (call := call) hh s p rfl e q
  | lookup => exact wPure_sim (call := call) hh s p rfl e q
  | lenM => exact wPure_sim (call := call) hh s p rfl e q
end
end Go.Bb
/- Reckoning: regions. -/
namespace Go.Bb
set_option linter.unusedVariables false
set_option linter.unusedSimpArgs false

/-- Temporaries on both sides. -/
def TS (fid : Nat → Option FuncId) (r : Rr) (tE : TL) (t : T) : Prop := ∀ i v, TL.get tE i = some v → ∃ v', t i = some v' ∧ VR fid r v v'

section
variable {has : Nat → Bool} {E : Env} {h0 : Heap} {r : Rr} {m m' : VM} {h : Heap} {v : Value} {call : CallE} {fid : Nat → Option FuncId} {tE tE' : TL} {t : T}

theorem TS.mono {r' : Rr} (s : TS fid r tE t) (hl : r.le r') : TS fid r' tE t := fun i v h => by
  obtain ⟨v', h1, h2⟩ := s i v h; exact ⟨v', h1, h2.mono hl⟩
theorem TL.get_cons (p : Nat × Value) (t : TL) (i : Nat) : TL.get (p :: t) i = if i = p.1 then some p.2 else TL.get t i := by
  have e : TL.get (p :: t) i = Bool.rec (motive := fun _ => Option Value) (TL.get t i) (some p.2) (Nat.beq i p.1) := rfl
  rw [e, brecN]
theorem TS.put (s : TS fid r tE t) {d : Option Nat} {v v' : Value} (hv : VR fid r v v') : TS fid r (TL.put tE d v) (tput t d v') := by
  cases d with
  | none => exact s
  | some d =>
    intro i u hu
    simp only [TL.put] at hu
    rw [TL.get_cons] at hu
    simp only [tput]
    by_cases e : i = d
    · simp only [e, if_true, Option.some.injEq] at hu ⊢; subst hu; exact ⟨v', rfl, hv⟩
    · simp only [e, if_false] at hu ⊢; exact s i u hu
theorem TS.sim (hh : Has has fid) (s : TS fid r tE t) : Sim fid r (oevE has tE) (oev fid t) := by
  intro x v h
  cases x with
  | t i => exact s i v h
  | c u =>
    simp only [oevE] at h
    cases hc : constOk u with
    | false => rw [hc] at h; cases h
    | true =>
      rw [hc] at h; simp only [Option.some.injEq] at h; subst h
      exact ⟨u, rfl, .one (VR1.const hc)⟩
  | f n =>
    simp only [oevE] at h
    cases hc : has n with
    | false => rw [hc] at h; cases h
    | true =>
      rw [hc] at h; simp only [cond_true, Option.some.injEq] at h; subst h
      obtain ⟨g, hg⟩ := hh n hc
      exact ⟨.func (.func g) #[] #[], by simp only [oev, hg, Option.map_some], .one (.one (.func hg .nil .nil))⟩

theorem TL.keep_cons (k : Nat) (ks : List Nat) (t : TL) : TL.keep (k :: ks) t = match TL.get t k with | some v => (k, v) :: TL.keep ks t | none => TL.keep ks t := by
  have e : TL.keep (k :: ks) t = Option.rec (motive := fun _ => TL) (TL.keep ks t) (fun v => (k, v) :: TL.keep ks t) (TL.get t k) := rfl
  rw [e]; cases TL.get t k <;> rfl
theorem TL.get_keep : ∀ {ks : List Nat} {t : TL} {i : Nat} {v : Value}, TL.get (TL.keep ks t) i = some v → i ∈ ks ∧ TL.get t i = some v
  | [], t, i, v, h => by cases h
  | k :: ks, t, i, v, h => by
    rw [TL.keep_cons] at h
    split at h
    · rename_i u hu
      rw [TL.get_cons] at h
      by_cases e : i = k
      · simp only [e, if_true, Option.some.injEq] at h ⊢; subst h; exact ⟨by simp, hu⟩
      · simp only [e, if_false] at h
        obtain ⟨h1, h2⟩ := TL.get_keep h
        exact ⟨by simp [h1], h2⟩
    · obtain ⟨h1, h2⟩ := TL.get_keep h
      exact ⟨by simp [h1], h2⟩
theorem tkeep_get : ∀ (ks : List Nat) (t : T) (i : Nat) (v : Value), i ∈ ks → t i = some v → tkeep ks t i = some v
  | [], t, i, v, hi, hv => by cases hi
  | k :: ks, t, i, v, hi, hv => by
    unfold tkeep
    simp only [List.filterMap_cons]
    by_cases e : i = k
    · subst e; rw [hv]; simp [tl]
    · have hi' : i ∈ ks := by simpa [e] using hi
      have := tkeep_get ks t i v hi' hv
      unfold tkeep at this
      cases hk : t k with
      | none => simpa using this
      | some u => simp only [Option.map_some, tl]; rw [if_neg e]; exact this
theorem TS.keep (s : TS fid r tE t) (ks : List Nat) : TS fid r (TL.keep ks tE) (tkeep ks t) := by
  intro i v h
  obtain ⟨h1, h2⟩ := TL.get_keep h
  obtain ⟨v', h3, h4⟩ := s i v h2
  exact ⟨v', tkeep_get ks t i v' h1 h3, h4⟩

/-! ### in the text's order -/
theorem ops_sim (hh : Has has E.fid) (hc : CallsOk E h0 call) : ∀ (os : List AOper) {tE tE' : TL} {m m' : VM} {r : Rr} {h : Heap} {t : T} {R : T → Heap → Prop}, evOps has call os tE m = some (tE', m') → HS E.fid h0 r m h → TS E.fid r tE t →
    (∀ t' h' r', r.le r' → HS E.fid h0 r' m' h' → TS E.fid r' tE' t' → R t' h') → runOps E os R t h
  | [], tE, tE', m, m', r, h, t, R, e, p, s, q => by
    have e : some (tE, m) = some (tE', m') := e
    simp only [Option.some.injEq, Prod.mk.injEq] at e
    obtain ⟨rfl, rfl⟩ := e
    exact q _ _ r (Rr.le_refl _) p s
  | o :: os, tE, tE', m, m', r, h, t, R, e, p, s, q => by
    have e : oneOps has call o (evOps has call os) tE m = some (tE', m') := e
    have go : goOps has call o (evOps has call os) tE m = some (tE', m') → step E (oev E.fid t) h o.op fun v h' => runOps E os R (tput t o.dst v) h' := by
      intro e
      unfold goOps at e
      split at e
      · rename_i v m2 hv
        refine step_sim hh hc (s.sim hh) p hv fun v' h' r' hl p' hvr => ?_
        exact ops_sim hh hc os e p' ((s.mono hl).put hvr) fun t2 h2 r2 hl2 p2 s2 => q t2 h2 r2 (Rr.le_trans hl hl2) p2 s2
      · cases e
    unfold oneOps at e
    unfold runOps
    split at e
    · rename_i hg; rw [hg]; exact go e
    · rename_i g want hg
      rw [hg]
      simp only
      split at e
      · rename_i b hb
        obtain ⟨b', h1, h2⟩ := s g _ hb
        rw [h2.of_bool] at h1
        rw [h1]
        simp only
        cases hbw : (b == want) with
        | true =>
          rw [hbw] at e; simp only [cond_true] at e
          rw [if_pos (by simpa using hbw)]; exact go e
        | false =>
          rw [hbw] at e; simp only [cond_false] at e
          rw [if_neg (by simpa using hbw)]
          exact ops_sim hh hc os e p (s.put undef_rel) q
      · rename_i x hb
        obtain ⟨b', h1, h2⟩ := s g _ hb
        obtain ⟨y, hy⟩ := h2.of_tuple
        rw [hy] at h1
        rw [h1]
        exact ops_sim hh hc os e p (s.put undef_rel) q
      · cases e

/-! ### in an order that is drawn -/
inductive HistR (fid : Nat → Option FuncId) (r : Rr) : List VM → List Heap → Prop
  | nil : HistR fid r [] []
  | cons {m : VM} {h : Heap} {ms : List VM} {hs : List Heap} (p : HR fid r m h) (t : HistR fid r ms hs) : HistR fid r (m :: ms) (h :: hs)
theorem HistR.mono {r r' : Rr} (hl : r.le r') : ∀ {ms : List VM} {hs : List Heap}, HistR fid r ms hs → HistR fid r' ms hs
  | _, _, .nil => .nil
  | _, _, .cons p t => .cons (p.mono hl) (t.mono hl)
theorem HistR.take : ∀ (n : Nat) {ms : List VM} {hs : List Heap}, HistR fid r ms hs → HistR fid r (ms.take n) (hs.take n)
  | 0, _, _, _ => by simp; exact .nil
  | _ + 1, _, _, .nil => by simp; exact .nil
  | n + 1, _, _, .cons p t => by simp; exact .cons p (t.take n)

theorem sameV0_eq {a b a' b' : Value} (e : sameV0 a b = true) (ha : VR fid r a a') (hb : VR fid r b b') : a' = b' := by
  unfold sameV0 at e
  split at e
  · simp only [Bool.and_eq_true, decide_eq_true_eq] at e
    rw [ha.of_int, hb.of_int, e.1, e.2]
  · rw [ha.of_bool, hb.of_bool]; simpa using e
  · rw [ha.of_str, hb.of_str]
    rename_i x y
    have : x.data.toList = y.data.toList := by simpa using e
    have : x = y := by
      cases x; cases y
      simp only [ByteArray.mk.injEq] at this ⊢
      exact Array.ext' this
    rw [this]
  · rename_i x y
    simp only [decide_eq_true_eq] at e
    subst e
    cases x with
    | none => rw [ha.of_ptr0, hb.of_ptr0]
    | some x =>
      obtain ⟨k, _, hk, rfl⟩ := ha.of_ptr
      obtain ⟨k', _, hk', rfl⟩ := hb.of_ptr
      rw [hk] at hk'; simp only [Option.some.injEq] at hk'; subst hk'; rfl
  · rename_i x n c y n' c'
    simp only [Bool.and_eq_true, decide_eq_true_eq] at e
    obtain ⟨rfl, e2, e3, e4⟩ := e
    have e2 := Nat.eq_of_beq_eq_true e2
    have e3 := Nat.eq_of_beq_eq_true e3
    subst e2; subst e3
    cases x with
    | none => rw [ha.of_sl0, hb.of_sl0]
    | some x =>
      have hn : 0 < n := by simp [Nat.blt] at e4; omega
      obtain ⟨k, c1, o1, _, hk, rfl, l1, q0, q1⟩ := ha.of_sl
      obtain ⟨k', c2, o2, _, hk', rfl, l2, w0, w1⟩ := hb.of_sl
      rw [hk] at hk'; simp only [Option.some.injEq] at hk'; subst hk'
      by_cases z : k.es = 0
      · obtain ⟨rfl, rfl⟩ := q0 z
        obtain ⟨rfl, rfl⟩ := w0 z
        rfl
      · obtain ⟨u1, u2⟩ := q1 z
        obtain ⟨u3, u4⟩ := w1 z
        have : c1 * k.es = c2 * k.es := by omega
        have hc := Nat.eq_of_mul_eq_mul_right (by omega) this
        subst hc
        rw [u2 (by omega), u4 (by omega)]
  · rename_i x y
    simp only [decide_eq_true_eq] at e
    subst e
    cases x with
    | none => rw [ha.of_map0, hb.of_map0]
    | some x =>
      obtain ⟨k, hk, rfl⟩ := ha.of_map
      obtain ⟨k', hk', rfl⟩ := hb.of_map
      rw [hk] at hk'; simp only [Option.some.injEq] at hk'; subst hk'; rfl
  · cases e
theorem sameL_eq {S : Value → Value → Prop} (hS : ∀ a b, S a b → VR fid r a b) : ∀ {a b a' b' : List Value}, sameL a b = true → All2 S a a' → All2 S b b' → a' = b'
  | [], [], _, _, _, .nil, .nil => rfl
  | _ :: _, _ :: _, _, _, e, .cons x t, .cons y u => by
    simp only [sameL, Bool.and_eq_true] at e
    rw [sameV0_eq e.1 (hS _ _ x) (hS _ _ y), sameL_eq hS e.2 t u]
  | [], _ :: _, _, _, e, _, _ => by simp [sameL] at e
  | _ :: _, [], _, _, e, _, _ => by simp [sameL] at e
theorem sameV_eq {a b a' b' : Value} (e : sameV a b = true) (ha : VR fid r a a') (hb : VR fid r b b') : a' = b' := by
  unfold sameV at e
  split at e
  · obtain ⟨x, rfl, hx⟩ := ha.of_agg
    obtain ⟨y, rfl, hy⟩ := hb.of_agg
    rw [Array.ext' (sameL_eq (fun _ _ q => .one (.one q)) e hx hy)]
  · obtain ⟨x, rfl, hx⟩ := ha.of_tup
    obtain ⟨y, rfl, hy⟩ := hb.of_tup
    rw [Array.ext' (sameL_eq (fun _ _ q => .one q) e hx hy)]
  · exact sameV0_eq e ha hb

theorem pureV_still {ρ : Opd → Option Value} {g h : Heap} {op : AOp} (e : memOp op = false) : pureV fid ρ g op = pureV fid ρ h op := by
  cases op <;> first | rfl | (cases e; done)

theorem back_sim (hh : Has has E.fid) {ρ ρ' : Opd → Option Value} (s : Sim E.fid r ρ ρ') {op : AOp} {v v' : Value} {back : Nat} {ms : List VM} {hs : List Heap} {hb : Heap} (hist : HistR E.fid r ms hs) (hv : VR E.fid r v v') (hp : pureV E.fid ρ' hb op = some v')
    (e : backOk has ρ op v back ms = true) : ∀ g ∈ hs.take back, pureV E.fid ρ' g op = some v' := by
  unfold backOk at e
  cases hm : memOp op with
  | false => intro g _; rw [pureV_still hm (h := hb)]; exact hp
  | true =>
    rw [hm] at e
    simp only [Bool.not_true, Bool.false_or] at e
    have key : ∀ {ms : List VM} {hs : List Heap}, HistR E.fid r ms hs → (ms.all fun g => match (boxP has op).f ρ g with | some u => sameV u v | none => false) = true → ∀ g ∈ hs, pureV E.fid ρ' g op = some v' := by
      intro ms hs hi
      induction hi with
      | nil => intro _ g hg; cases hg
      | cons p t ih =>
        intro hall g hg
        simp only [List.all_cons, Bool.and_eq_true] at hall
        simp only [List.mem_cons] at hg
        rcases hg with rfl | hg
        · have h1 := hall.1
          split at h1
          · rename_i u hu
            obtain ⟨u', w1, w2⟩ := pure_sim hh s p hu
            rw [w1, sameV_eq h1 w2 hv]
          · cases h1
        · exact ih hall.2 g hg
    exact key (hist.take back) e

theorem dops_sim (hh : Has has E.fid) (hc : CallsOk E h0 call) : ∀ (os : List DOper) {tE tE' : TL} {m m' mb : VM} {hist : List VM} {r : Rr} {h hb : Heap} {hs : List Heap} {t : T} {R : T → Heap → Prop}, evD has call os tE m mb hist = some (tE', m') →
    HS E.fid h0 r m h → HR E.fid r mb hb → HistR E.fid r hist hs → TS E.fid r tE t →
    (∀ t' h' r', r.le r' → HS E.fid h0 r' m' h' → TS E.fid r' tE' t' → R t' h') → runD E os R t h hb hs
  | [], tE, tE', m, m', mb, hist, r, h, hb, hs, t, R, e, p, pb, ph, s, q => by
    have e : some (tE, m) = some (tE', m') := e
    simp only [Option.some.injEq, Prod.mk.injEq] at e
    obtain ⟨rfl, rfl⟩ := e
    exact q _ _ r (Rr.le_refl _) p s
  | o :: os, tE, tE', m, m', mb, hist, r, h, hb, hs, t, R, e, p, pb, ph, s, q => by
    have e : oneDE has call o (evD has call os) tE m mb hist = some (tE', m') := e
    have go : goDE has call o (evD has call os) tE m mb hist = some (tE', m') → goD E o t h hb hs (runD E os R) := by
      intro e
      unfold goDE at e
      unfold goD
      cases hW : o.op.isW with
      | true =>
        rw [hW] at e; simp only [cond_true] at e
        rw [if_pos rfl]
        split at e
        · rename_i v m2 hv
          refine step_sim hh hc (s.sim hh) p hv fun v' h' r' hl p' hvr => ?_
          exact dops_sim hh hc os e p' p'.toHR (.cons (pb.mono hl) (ph.mono hl)) ((s.mono hl).put hvr) fun t2 h2 r2 hl2 p2 s2 => q t2 h2 r2 (Rr.le_trans hl hl2) p2 s2
        · cases e
      | false =>
        rw [hW] at e; simp only [cond_false] at e
        rw [if_neg (by simp)]
        cases hA : o.op.isA with
        | true =>
          rw [hA] at e; simp only [Bool.true_or, cond_true] at e
          rw [if_pos rfl]
          split at e
          · rename_i v m2 hv
            have al : ∀ c, ∃ blk mk', allocW c (oev E.fid t) o.op = some (blk, mk') ∧ ∀ b, h b = none → ∃ r', r.le r' ∧ HS E.fid h0 r' m2 (h.set b blk) ∧ VR E.fid r' v (mk' b) := by
              have s' := s.sim hh
              intro c
              generalize o.op = op at hA hv
              cases op with
              | alloc z => exact alloc_step (ρ' := oev E.fid t) (call := call) (f := aAlloc z) rfl (fun _ _ => aAlloc_sim (ρ' := oev E.fid t)) p hv
              | box x => exact alloc_step (ρ' := oev E.fid t) (call := call) (f := aBox x) rfl (fun _ _ => aBox_sim s') p hv
              | bslice n size z ps => exact alloc_step (ρ' := oev E.fid t) (call := call) (f := aBslice n size z ps) rfl (fun _ _ => aBslice_sim s') p hv
              | mslice b z l c1 => exact alloc_step (ρ' := oev E.fid t) (call := call) (f := aMslice b z l c1) rfl (fun _ _ => aMslice_sim s') p hv
              | mmap => exact alloc_step (ρ' := oev E.fid t) (call := call) (ρ := oevE has tE) (f := aMmap) rfl (fun _ _ => aMmap_sim (ρ' := oev E.fid t)) p hv
              | bytesOf x => exact bytes_step (call := call) s' p hv c
              | _ => cases hA
            intro c
            obtain ⟨blk, mk', h1, h2⟩ := al c
            rw [h1]
            intro b hb'
            obtain ⟨r', hl, p', hvr⟩ := h2 b hb'
            exact dops_sim hh hc os e p' (pb.mono hl) (ph.mono hl) ((s.mono hl).put hvr) fun t2 h2 r2 hl2 p2 s2 => q t2 h2 r2 (Rr.le_trans hl hl2) p2 s2
          · cases e
        | false =>
          rw [hA] at e; simp only [Bool.false_or] at e
          rw [if_neg (by simp)]
          cases hM : o.op.isM with
          | true =>
            rw [hM] at e; simp only [cond_true] at e
            rw [if_pos rfl]
            split at e
            · rename_i v m2 hv
              have al : m2 = m ∧ ∃ v', markQ (oev E.fid t) h o.op = some v' ∧ VR E.fid r v v' := by
                have s' := s.sim hh
                generalize o.op = op at hM hv
                cases op with
                | mark x => exact mark_step (call := call) s' p hv
                | _ => cases hM
              obtain ⟨hm2, v', h1, h2⟩ := al
              rw [hm2] at e
              rw [h1]
              exact dops_sim hh hc os e p pb ph (s.put h2) q
            · cases e
          | false =>
          rw [hM] at e; simp only [cond_false] at e
          rw [if_neg (by simp)]
          split at e
          · rename_i v hv
            cases hbk : backOk has (oevE has tE) o.op v o.back hist with
            | false => rw [hbk] at e; cases e
            | true =>
              rw [hbk] at e; simp only [cond_true] at e
              obtain ⟨v', w1, w2⟩ := pure_sim hh (s.sim hh) pb hv
              rw [w1]
              exact ⟨back_sim hh (s.sim hh) ph w2 w1 hbk, dops_sim hh hc os e p pb ph (s.put w2) q⟩
          · cases e
    unfold oneDE at e
    simp only [runD]
    unfold oneD
    split at e
    · rename_i hg; rw [hg]; exact go e
    · rename_i g want hg
      rw [hg]
      simp only
      split at e
      · rename_i b hb'
        obtain ⟨b', h1, h2⟩ := s g _ hb'
        rw [h2.of_bool] at h1
        rw [h1]
        simp only
        cases hbw : (b == want) with
        | true =>
          rw [hbw] at e; simp only [cond_true] at e
          rw [if_pos (by simpa using hbw)]; exact go e
        | false =>
          rw [hbw] at e; simp only [cond_false] at e
          rw [if_neg (by simpa using hbw)]
          unfold skipD
          cases hW : o.op.isW with
          | true => rw [hW] at e; exact dops_sim hh hc os e p pb (.cons pb ph) (s.put undef_rel) q
          | false => rw [hW] at e; exact dops_sim hh hc os e p pb ph (s.put undef_rel) q
      · rename_i x hb'
        obtain ⟨b', h1, h2⟩ := s g _ hb'
        obtain ⟨y, hy⟩ := h2.of_tuple
        rw [hy] at h1
        rw [h1]
        simp only
        unfold skipD
        cases hW : o.op.isW with
        | true => rw [hW] at e; exact dops_sim hh hc os e p pb (.cons pb ph) (s.put undef_rel) q
        | false => rw [hW] at e; exact dops_sim hh hc os e p pb ph (s.put undef_rel) q
      · cases e
end
end Go.Bb
/- Reckoning: code and calls: what is reckoned is what comes. -/
namespace Go.Bb
set_option linter.unusedVariables false
set_option linter.unusedSimpArgs false

/-- A piece of code, and what is reckoned of it. -/
def CodeOk (E : Env) (h0 : Heap) (c : ACode) (f : KA) : Prop := ∀ (N : Nat) (tE : TL) (m : VM) (e : AExit) (tE' : TL) (m' : VM) (r : Rr) (h : Heap) (t : T), f tE m = some (e, tE', m') → HS E.fid h0 r m h → TS E.fid r tE t →
  ∀ Q : AExit → T → Heap → Prop, (∀ t' h' r', r.le r' → HS E.fid h0 r' m' h' → TS E.fid r' tE' t' → Q e t' h') → AW E N c Q t h

section
variable {has : Nat → Bool} {E : Env} {h0 : Heap} {call : CallE} {lf : Nat}

theorem thenE_some {x : Option (AExit × TL × VM)} {b : KA} {y : AExit × TL × VM} (h : thenE x b = some y) :
    (∃ t m, x = some (.normal, t, m) ∧ b t m = some y) ∨ (∃ i t m, x = some (.exit i, t, m) ∧ y = (.exit i, t, m)) ∨ (∃ t m, x = some (.ret, t, m) ∧ y = (.ret, t, m)) := by
  cases x with
  | none => cases h
  | some x =>
    obtain ⟨e, t, m⟩ := x
    cases e with
    | normal => exact .inl ⟨t, m, rfl, h⟩
    | exit i => simp only [thenE, Option.some.injEq] at h; exact .inr (.inl ⟨i, t, m, rfl, h.symm⟩)
    | ret => simp only [thenE, Option.some.injEq] at h; exact .inr (.inr ⟨t, m, rfl, h.symm⟩)

theorem loop_ok {c : ACode} {f : KA} (ih : CodeOk E h0 c f) : CodeOk E h0 (.loop c) (aLoop lf f) := by
  intro N tE m e tE' m' r h t hf p s Q q
  refine aw_loop (fun n t1 h1 => ∃ tE1 m1 r1, r.le r1 ∧ HS E.fid h0 r1 m1 h1 ∧ TS E.fid r1 tE1 t1 ∧ aLoop n f tE1 m1 = some (e, tE', m')) lf ⟨tE, m, r, Rr.le_refl _, p, s, hf⟩ ?_
  rintro n t1 h1 ⟨tE1, m1, r1, hl1, p1, s1, hf1⟩
  cases n with
  | zero => cases hf1
  | succ n =>
    have hf1 : thenE (f tE1 m1) (aLoop n f) = some (e, tE', m') := hf1
    rcases thenE_some hf1 with ⟨t2, m2, g1, g2⟩ | ⟨i, t2, m2, g1, g2⟩ | ⟨t2, m2, g1, g2⟩
    · refine ih N tE1 m1 _ t2 m2 r1 h1 t1 g1 p1 s1 _ fun t' h' r' hl p' s' => ?_
      exact ⟨n, by omega, t2, m2, r', Rr.le_trans hl1 hl, p', s', g2⟩
    · simp only [Prod.mk.injEq] at g2
      obtain ⟨rfl, rfl, rfl⟩ := g2
      exact ih N tE1 m1 _ _ _ r1 h1 t1 g1 p1 s1 _ fun t' h' r' hl p' s' => q t' h' r' (Rr.le_trans hl1 hl) p' s'
    · simp only [Prod.mk.injEq] at g2
      obtain ⟨rfl, rfl, rfl⟩ := g2
      exact ih N tE1 m1 _ _ _ r1 h1 t1 g1 p1 s1 _ fun t' h' r' hl p' s' => q t' h' r' (Rr.le_trans hl1 hl) p' s'

theorem code_ok (hh : Has has E.fid) (hc : CallsOk E h0 call) : ∀ c : ACode, CodeOk E h0 c (evA has call lf c)
  | .skip => by
    intro N tE m e tE' m' r h t hf p s Q q
    have hf : some (AExit.normal, tE, m) = some (e, tE', m') := hf
    simp only [Option.some.injEq, Prod.mk.injEq] at hf
    obtain ⟨rfl, rfl, rfl⟩ := hf
    exact aw_skip (q _ _ r (Rr.le_refl _) p s)
  | .ops os keep => by
    intro N tE m e tE' m' r h t hf p s Q q
    have hf : aOps has call os keep tE m = some (e, tE', m') := hf
    unfold aOps at hf
    split at hf
    · rename_i t2 m2 h2
      simp only [Option.some.injEq, Prod.mk.injEq] at hf
      obtain ⟨rfl, rfl, rfl⟩ := hf
      exact aw_ops (ops_sim hh hc os h2 p s fun t' h' r' hl p' s' => q _ _ r' hl p' (s'.keep keep))
    · cases hf
  | .dops os keep => by
    intro N tE m e tE' m' r h t hf p s Q q
    have hf : aDops has call os keep tE m = some (e, tE', m') := hf
    unfold aDops at hf
    split at hf
    · rename_i t2 m2 h2
      simp only [Option.some.injEq, Prod.mk.injEq] at hf
      obtain ⟨rfl, rfl, rfl⟩ := hf
      exact aw_dops (dops_sim hh hc os h2 p p.toHR .nil s fun t' h' r' hl p' s' => q _ _ r' hl p' (s'.keep keep))
    · cases hf
  | .seq a b => by
    intro N tE m e tE' m' r h t hf p s Q q
    have hf : thenE (evA has call lf a tE m) (evA has call lf b) = some (e, tE', m') := hf
    refine aw_seq ?_
    rcases thenE_some hf with ⟨t2, m2, g1, g2⟩ | ⟨i, t2, m2, g1, g2⟩ | ⟨t2, m2, g1, g2⟩
    · refine code_ok hh hc a N tE m _ t2 m2 r h t g1 p s _ fun t' h' r' hl p' s' => ?_
      exact code_ok hh hc b N t2 m2 e tE' m' r' h' t' g2 p' s' Q fun t3 h3 r3 hl3 p3 s3 => q t3 h3 r3 (Rr.le_trans hl hl3) p3 s3
    · simp only [Prod.mk.injEq] at g2
      obtain ⟨rfl, rfl, rfl⟩ := g2
      exact code_ok hh hc a N tE m _ _ _ r h t g1 p s _ q
    · simp only [Prod.mk.injEq] at g2
      obtain ⟨rfl, rfl, rfl⟩ := g2
      exact code_ok hh hc a N tE m _ _ _ r h t g1 p s _ q
  | .cond c a b => by
    intro N tE m e tE' m' r h t hf p s Q q
    have hf : aCond has c (evA has call lf a) (evA has call lf b) tE m = some (e, tE', m') := hf
    unfold aCond at hf
    split at hf
    · rename_i hb
      exact aw_cond ((s.sim hh).bool hb) (fun _ => code_ok hh hc a N tE m _ _ _ r h t hf p s _ q) (fun hx => by cases hx)
    · rename_i hb
      exact aw_cond ((s.sim hh).bool hb) (fun hx => by cases hx) (fun _ => code_ok hh hc b N tE m _ _ _ r h t hf p s _ q)
    · cases hf
  | .block id c => by
    intro N tE m e tE' m' r h t hf p s Q q
    have hf : leaveE id (evA has call lf c tE m) = some (e, tE', m') := hf
    refine aw_block ?_
    cases hx : evA has call lf c tE m with
    | none => rw [hx] at hf; cases hf
    | some y =>
      obtain ⟨e1, t1, m1⟩ := y
      rw [hx] at hf
      cases e1 with
      | normal =>
        simp only [leaveE, Option.some.injEq, Prod.mk.injEq] at hf
        obtain ⟨rfl, rfl, rfl⟩ := hf
        exact code_ok hh hc c N tE m _ _ _ r h t hx p s _ q
      | ret =>
        simp only [leaveE, Option.some.injEq, Prod.mk.injEq] at hf
        obtain ⟨rfl, rfl, rfl⟩ := hf
        exact code_ok hh hc c N tE m _ _ _ r h t hx p s _ q
      | exit i =>
        simp only [leaveE] at hf
        cases hi : Nat.beq i id with
        | true =>
          rw [hi] at hf; simp only [cond_true, Option.some.injEq, Prod.mk.injEq] at hf
          obtain ⟨rfl, rfl, rfl⟩ := hf
          refine code_ok hh hc c N tE m _ _ _ r h t hx p s _ fun t' h' r' hl p' s' => ?_
          simp only [qBlock]
          rw [if_pos (Nat.eq_of_beq_eq_true hi)]
          exact q t' h' r' hl p' s'
        | false =>
          rw [hi] at hf; simp only [cond_false, Option.some.injEq, Prod.mk.injEq] at hf
          obtain ⟨rfl, rfl, rfl⟩ := hf
          refine code_ok hh hc c N tE m _ _ _ r h t hx p s _ fun t' h' r' hl p' s' => ?_
          simp only [qBlock]
          rw [if_neg (fun hh => by rw [hh, Nat.beq_refl] at hi; cases hi)]
          exact q t' h' r' hl p' s'
  | .loop c => loop_ok (code_ok hh hc c)
  | .scope c => by
    intro N tE m e tE' m' r h t hf p s Q q
    exact aw_scope (code_ok hh hc c N tE m e tE' m' r h t hf p s Q q)
  | .exit id => by
    intro N tE m e tE' m' r h t hf p s Q q
    have hf : some (AExit.exit id, tE, m) = some (e, tE', m') := hf
    simp only [Option.some.injEq, Prod.mk.injEq] at hf
    obtain ⟨rfl, rfl, rfl⟩ := hf
    exact aw_exit (q _ _ r (Rr.le_refl _) p s)
  | .ret => by
    intro N tE m e tE' m' r h t hf p s Q q
    have hf : some (AExit.ret, tE, m) = some (e, tE', m') := hf
    simp only [Option.some.injEq, Prod.mk.injEq] at hf
    obtain ⟨rfl, rfl, rfl⟩ := hf
    exact aw_ret (q _ _ r (Rr.le_refl _) p s)
  | .bad => by
    intro N tE m e tE' m' r h t hf p s Q q
    cases hf

/-! ### results -/
theorem ret_sim {fid : Nat → Option FuncId} {r : Rr} {m : VM} {h : Heap} {tE : TL} {t : T} (p : HR fid r m h) (s : TS fid r tE t) : ∀ {rs : List ARes} {vs : List Value}, retE rs tE m = some vs → ∃ vs', retL rs t h = some vs' ∧ All2 (VR1 fid r) vs vs'
  | [], vs, e => by simp only [retE, Option.some.injEq] at e; subst e; exact ⟨[], rfl, .nil⟩
  | .tmp i :: rs, vs, e => by
    simp only [retE] at e
    split at e
    · rename_i v us hv hus
      cases hn : noTup v with
      | false => rw [hn] at e; cases e
      | true =>
        rw [hn] at e; simp only [cond_true, Option.some.injEq] at e; subst e
        obtain ⟨v', h1, h2⟩ := s i v hv
        obtain ⟨us', h3, h4⟩ := ret_sim p s hus
        exact ⟨v' :: us', by simp only [retL, h1, h3], .cons (h2.one' hn) h4⟩
    · cases e
  | .cell i k :: rs, vs, e => by
    simp only [retE] at e
    split at e
    · rename_i a us hv hus
      rw [Option.map_eq_some_iff] at e
      obtain ⟨u, hu, rfl⟩ := e
      obtain ⟨v', h1, h2⟩ := s i _ hv
      obtain ⟨kk, _, hk, rfl⟩ := h2.of_ptr
      obtain ⟨us', h3, h4⟩ := ret_sim p s hus
      obtain ⟨u', h5, h6⟩ := read_sim p hk hu
      refine ⟨u' :: us', ?_, .cons h6 h4⟩
      simp only [retL, h1, h3]
      rw [show (⟨kk.b, a.off + kk.sh, none⟩ : Addr) = kk.at a from rfl, h5, Option.map_some]
    · cases e
theorem retV_sim {fid : Nat → Option FuncId} {r : Rr} {vs vs' : List Value} (h : All2 (VR1 fid r) vs vs') : VR fid r (retV vs) (retV vs') := by
  cases h with
  | nil => exact .tup .nil
  | cons x t =>
    cases t with
    | nil => exact .one x
    | cons y t => exact .tup (by simpa using All2.cons x (All2.cons y t))

theorem args_sim {fid : Nat → Option FuncId} {r : Rr} : ∀ {args args' : List Value} (n : Nat), All2 (VR fid r) args args' → TS fid r (z6v n args) (tl (z6v n args'))
  | _, _, n, .nil => by intro i v h; cases h
  | _, _, n, .cons x t => by
    intro i v h
    simp only [z6v] at h ⊢
    rw [TL.get_cons] at h
    simp only [tl]
    by_cases e : i = n
    · simp only [e, if_true, Option.some.injEq] at h ⊢; subst h; exact ⟨_, rfl, x⟩
    · simp only [e, if_false] at h ⊢; exact args_sim (n + 1) t i v h
end

section
variable {tab : Nat → Option (Hint × AFunc)} {E : EnvT tab} {h0 : Heap} {call : CallE} {lf : Nat}

theorem body_ok (hh : Has (fun k => (tab k).isSome) E.fid) (hc : CallsOk E.toEnv h0 call) (n : Nat) : CallOk E.toEnv h0 n (bodyE (fun k => (tab k).isSome) call lf (tab n)) := by
  intro args m v m' r h args' p ha e
  cases ht : tab n with
  | none => rw [ht] at e; cases e
  | some hf =>
    obtain ⟨H, af⟩ := hf
    rw [ht] at e
    simp only [bodyE] at e
    cases hb : Nat.ble args.length af.nt with
    | false => rw [hb] at e; cases e
    | true =>
      rw [hb] at e; simp only [cond_true] at e
      have hb := Nat.le_of_ble_eq_true hb
      have hlen := ha.length
      refine acall_body ht (by simpa [← hlen] using hb) ?_
      unfold backE at e
      split at e
      · cases e
      · rename_i ex t2 m2 hx
        split at e
        · cases e
        · rename_i hex
          split at e
          · rename_i vs hvs
            simp only [Option.some.injEq, Prod.mk.injEq] at e
            obtain ⟨rfl, rfl⟩ := e
            refine code_ok hh hc af.body af.nt (z6v 0 args) m ex t2 m2 r h _ hx p (args_sim 0 ha) _ fun t' h' r' hl p' s' => ?_
            obtain ⟨vs', g1, g2⟩ := ret_sim p'.toHR s' hvs
            cases ex with
            | exit i => exact absurd rfl (hex i)
            | normal => simp only [qRet, g1]; exact ⟨r', hl, p', retV_sim g2⟩
            | ret => simp only [qRet, g1]; exact ⟨r', hl, p', retV_sim g2⟩
          · cases e

def HooksOk (E : Env) (hk : Hooks) : Prop := ∀ h0 n f, hk n = some f → CallOk E h0 n f

theorem evF_ok (hh : Has (fun k => (tab k).isSome) E.fid) {hk : Hooks} (hko : HooksOk E.toEnv hk) : ∀ d, CallsOk E.toEnv h0 (evF tab hk lf d)
  | 0 => fun n args m v m' r h args' p ha e => by cases e
  | d + 1 => by
    intro n
    have : evF tab hk lf (d + 1) n = hookE (hk n) (bodyE (fun k => (tab k).isSome) (evF tab hk lf d) lf (tab n)) := rfl
    rw [this]
    cases hkn : hk n with
    | none => exact body_ok hh (evF_ok hh hko d) n
    | some f => exact hko h0 n f hkn
theorem start_hs (h : Heap) (fid : Nat → Option FuncId) : HS fid h (fun _ => none) VM.start h := by
  have g : ∀ b, VM.start.get b = none := fun b => rfl
  exact { blk := fun b x hx => (by rw [g] at hx; cases hx), inj := fun b c x y k l hx => (by rw [g] at hx; cases hx), old := fun _ _ q => q, own := fun b x k hx => (by rw [g] at hx; cases hx), fresh := fun _ _ => rfl, room := by decide }

/-- What reckoning says of a closed call holds. -/
theorem evF_true {hk : Hooks} (hko : HooksOk E.toEnv hk) {d n : Nat} (h : Heap) (e : isTrue (evF tab hk lf d n [] VM.start) = true) : ACallN E.toEnv n [] h fun v h' => v = .bool true ∧ h.le h' := by
  cases hx : evF tab hk lf d n [] VM.start with
  | none => rw [hx] at e; cases e
  | some y =>
    obtain ⟨v, m⟩ := y
    rw [hx] at e
    have hv : v = .bool true := by
      unfold isTrue at e
      split at e
      · rename_i h1; simp only [Option.some.injEq, Prod.mk.injEq] at h1; exact h1.1
      · cases e
    subst hv
    refine (evF_ok (h0 := h) (lf := lf) E.full hko d n [] VM.start _ m _ h [] (start_hs h _) .nil hx).mono ?_
    rintro v' h' ⟨r', _, p', hv'⟩
    exact ⟨hv'.of_bool, p'.old⟩
end
end Go.Bb
