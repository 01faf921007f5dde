/- The short form of code, the table of functions, calls, and what a writing operation does. -/
import Derived.Test.YtgoifophjcbpaaaBbI
namespace Go.Bb
set_option linter.unusedSimpArgs false
set_option linter.unusedVariables false

structure AOper where
  dst : Option Nat
  op : AOp
  guard : Option (Nat × Bool) := none

structure DOper where
  ix : Nat
  dst : Option Nat
  op : AOp
  guard : Option (Nat × Bool) := none
  back : Nat := 0

inductive ACode where
  | skip
  | ops (os : List AOper) (keep : List Nat)
  | dops (os : List DOper) (keep : List Nat)
  | seq (a b : ACode)
  | cond (c : Opd) (a b : ACode)
  | block (id : Nat) (c : ACode)
  | loop (c : ACode)
  | scope (c : ACode)
  | exit (id : Nat)
  | ret
  | bad

inductive ARes where
  | tmp (t : Nat)
  | cell (t : Nat) (k : Option Nat)

structure AFunc where
  np : Nat
  nt : Nat
  results : List ARes
  body : ACode

/-- A program, and the numbers that my table has for its functions. -/
structure Env where
  P : Program
  fid : Nat → Option FuncId
  ψ : FuncId → Option Nat
  fid_ok : ∀ f n, ψ f = some n → fid n = some f
  body_ok : ∀ n f, fid n = some f → ∃ fn, P.funcs[f]? = some fn ∧ fn.body.isSome = true ∧ (fn.name == "runtime.NumGoroutine") = false

/-- A call of a function returns: the post, on what it returns and on what is ours then. -/
def ACalls (E : Env) (f : FuncId) (args : List Value) (h : Heap) (Q : Value → Heap → Prop) : Prop :=
  ∀ w, Sat h w → Calls E.P f args.toArray w fun e w' => ∃ v h', e = .returned v ∧ Sat h' w' ∧ Fr h h' w w' ∧ Q v h'

def ACallN (E : Env) (n : Nat) (args : List Value) (h : Heap) (Q : Value → Heap → Prop) : Prop :=
  ∀ f, E.fid n = some f → ACalls E f args h Q

theorem ACalls.mono {E : Env} {f : FuncId} {args : List Value} {h : Heap} {Q Q' : Value → Heap → Prop} (a : ACalls E f args h Q) (hq : ∀ v h', Q v h' → Q' v h') : ACalls E f args h Q' :=
  fun w s => (a w s).mono fun _ _ ⟨v, h', e1, e2, e3, e4⟩ => ⟨v, h', e1, e2, e3, hq _ _ e4⟩

theorem ACallN.mono {E : Env} {n : Nat} {args : List Value} {h : Heap} {Q Q' : Value → Heap → Prop} (a : ACallN E n args h Q) (hq : ∀ v h', Q v h' → Q' v h') : ACallN E n args h Q' :=
  fun f hf => (a f hf).mono hq

/-- How many elements an appended operand has, and their cells. -/
def readX (h : Heap) (size : Nat) : Value → Option (Nat × List Value)
  | .slice none n _ => if n = 0 then some (0, []) else none
  | .slice (some a) n _ => (hcells h a (n * size)).map fun l => (n, l)
  | .string s => if size = 1 then some (s.size, s.data.toList.map fun b => .int .u8 b.toNat) else none
  | _ => none

/-- The cells of a slice. -/
def oldOf (h : Heap) (n k : Nat) : Option Addr → Option (List Value)
  | none => if n = 0 then some [] else none
  | some a => hcells h a k

def appendW (size bytes : Nat) (h : Heap) (base : Option Addr) (n c m : Nat) (news : List Value) (K : Value → Heap → Prop) : Prop :=
  if n + m ≤ c then
    match base with
    | none => K (.slice none (n + m) c) h
    | some a =>
      match hstore h (a.add (n * size)) news with
      | some h' => (∀ u ∈ news, one u = true) ∧ K (.slice (some a) (n + m) c) h'
      | none => False
  else
    (n + m) * bytes ≤ 140737488355328 ∧ n + m ≤ 9223372036854775807 ∧
    match oldOf h n (n * size) base with
    | some old => ∀ b c', h b = none → n + m ≤ c' → K (.slice (some ⟨b, 0, none⟩) (n + m) c') (h.set b (.own 0 (old ++ news) (c' * size)))
    | none => False

def stepW (E : Env) (ρ : Opd → Option Value) (h : Heap) (K : Value → Heap → Prop) : AOp → Prop
  | .store size a x =>
    match ρ a, ρ x with
    | some (.pointer (some p)), some v => v.cells.size = size ∧ (∀ u ∈ v.cells.toList, one u = true) ∧ (match hstore h p v.cells.toList with | some h' => K undef h' | none => False)
    | _, _ => False
  | .call n args => match allV ρ args with | some vs => ACallN E n vs h K | none => False
  | .callv f args =>
    match ρ f, allV ρ args with
    | some (.func (.func g) first cap), some vs => (∃ m, E.fid m = some g) ∧ ACalls E g (first.toList ++ vs ++ cap.toList) h K
    | _, _ => False
  | .append size bytes s x =>
    match ρ s, ρ x with
    | some (.slice base n c), some xv => (match readX h size xv with | some (m, news) => appendW size bytes h base n c m news K | none => False)
    | _, _ => False
  | .appendZ size bytes z s x =>
    match ρ s, ρ x with
    | some (.slice base n c), some (.int _ m) => 0 ≤ m ∧ m ≤ 9223372036854775807 ∧ m * bytes ≤ 281474976710656 ∧ appendW size bytes h base n c m.toNat (List.flatten (List.replicate m.toNat z)) K
    | _, _ => False
  | .copy size d s =>
    match ρ d, ρ s with
    | some (.slice base n _), some (.slice (some b) m _) =>
      (match hcells h b (min m n * size) with
      | some l =>
        (∀ u ∈ l, one u = true) ∧
        (match base with
        | none => K (.int .i64 (min m n : Nat)) h
        | some a => (match hstore h a l with | some h' => K (.int .i64 (min m n : Nat)) h' | none => False))
      | none => False)
    | some (.slice base n _), some (.slice none m _) => m = 0 ∧ K (.int .i64 0) h
    | some (.slice base n _), some (.string s) =>
      (match base with
      | none => K (.int .i64 (min s.size n : Nat)) h
      | some a => size = 1 ∧ (match hstore h a ((s.data.toList.take (min s.size n)).map fun b => .int .u8 b.toNat) with | some h' => K (.int .i64 (min s.size n : Nat)) h' | none => False))
    | _, _ => False
  | .mupd kt m k v =>
    match ρ m, ρ k, ρ v with
    | some (.map (some r)), some kv, some vv =>
      (match h r with
      | some (.obj (.map es c)) =>
        (match keyFit kt kv, findV kt kv es.toList 0 with
        | some _, some (some (i, _)) => K undef (h.set r (.obj (.map (es.modify i fun e => { e with key := kv, val := vv }) c)))
        | some _, some none => K undef (h.set r (.obj (.map (es.push { key := kv, val := vv, born := c }) (c + 1))))
        | _, _ => False)
      | _ => False)
    | _, _, _ => False
  | .mdel kt m k =>
    match ρ m, ρ k with
    | some (.map (some r)), some kv =>
      (match h r with
      | some (.obj (.map es c)) =>
        (match keyFit kt kv, findV kt kv es.toList 0 with
        | some _, some (some (i, _)) => K (.tuple #[]) (h.set r (.obj (.map (es.eraseIdxIfInBounds i) c)))
        | some _, some none => K (.tuple #[]) (h.set r (.obj (.map es c)))
        | _, _ => False)
      | _ => False)
    | _, _ => False
  | .bytesOf x =>
    match ρ x with
    | some (.string s) => ∀ b c', h b = none → s.size ≤ c' → K (.slice (some ⟨b, 0, none⟩) s.size c') (h.set b (.own 0 (s.data.toList.map fun b => .int .u8 b.toNat) c'))
    | _ => False
  | .mark x =>
    match ρ x with
    | some (.slice (some a) n c) => (match h a.block with | some (.own _ _ _) => K (.slice (some a) n c) h | _ => False)
    | _ => False
  | _ => False

/-- One operation. -/
def step (E : Env) (ρ : Opd → Option Value) (h : Heap) (ao : AOp) (K : Value → Heap → Prop) : Prop :=
  match ao with
  | .alloc .. | .box .. | .bslice .. | .mslice .. | .mmap =>
    (match allocV ρ ao with
    | some (blk, mk) => ∀ b, h b = none → K (mk b) (h.set b blk)
    | none => False)
  | .store .. | .call .. | .callv .. | .append .. | .appendZ .. | .copy .. | .mupd .. | .mdel .. | .bytesOf .. | .mark .. => stepW E ρ h K ao
  | .bad => False
  | _ => match pureV E.fid ρ h ao with | some v => K v h | none => False

end Go.Bb
