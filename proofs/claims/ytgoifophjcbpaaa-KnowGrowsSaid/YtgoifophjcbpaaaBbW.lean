/- From the short form to the row: the table's functions are the program's; what holds in the memory in part holds of a call. -/
import Derived.Test.YtgoifophjcbpaaaBbU
import Derived.Below
namespace Go.Bb
set_option linter.unusedVariables false
open Go.RowKit

def numOf (l : List (Nat × FuncId)) (f : FuncId) : Option Nat := (l.find? fun p => p.2 == f).map (·.1)
def fidOf (l : List (Nat × FuncId)) (n : Nat) : Option FuncId := (l.find? fun p => p.1 == n).map (·.2)

theorem numOf_mem {l : List (Nat × FuncId)} {f : FuncId} {n : Nat} (h : numOf l f = some n) : (n, f) ∈ l := by
  unfold numOf at h
  obtain ⟨p, hp, rfl⟩ := Option.map_eq_some_iff.1 h
  have h1 := List.find?_some hp
  have h2 := List.mem_of_find?_eq_some hp
  simp only [beq_iff_eq] at h1
  subst h1
  exact h2
theorem fidOf_mem {l : List (Nat × FuncId)} {f : FuncId} {n : Nat} (h : fidOf l n = some f) : (n, f) ∈ l := by
  unfold fidOf at h
  obtain ⟨p, hp, rfl⟩ := Option.map_eq_some_iff.1 h
  have h1 := List.find?_some hp
  have h2 := List.mem_of_find?_eq_some hp
  simp only [beq_iff_eq] at h1
  subst h1
  exact h2

/-- One row of the table, checked. -/
def RowOk (P : Program) (ψ : FuncId → Option Nat) (tab : Nat → Option (Hint × AFunc)) (p : Nat × FuncId) : Prop :=
  ∃ fn hf, P.funcs[p.2]? = some fn ∧ tab p.1 = some hf ∧ fn.body.isSome = true ∧ (fn.name == "runtime.NumGoroutine") = false ∧ compF P ψ hf.1 fn = some hf.2

theorem rowOk {P : Program} {ψ : FuncId → Option Nat} {tab : Nat → Option (Hint × AFunc)} {n : Nat} {f : FuncId} (fn : Func) (H : Hint) (af : AFunc) (h1 : P.funcs[f]? = some fn) (h2 : tab n = some (H, af)) (h3 : fn.body.isSome = true)
    (h4 : (fn.name == "runtime.NumGoroutine") = false) (h5 : compF P ψ H fn = some af) : RowOk P ψ tab (n, f) := ⟨fn, (H, af), h1, h2, h3, h4, h5⟩

def envOf (P : Program) (tab : Nat → Option (Hint × AFunc)) (l : List (Nat × FuncId)) (hl : l.all (fun p => fidOf l p.1 == some p.2) = true) (hr : ∀ p ∈ l, RowOk P (numOf l) tab p) (hf : ∀ n, (tab n).isSome = true → ∃ g, fidOf l n = some g) : EnvT tab where
  full := hf
  P := P
  fid := fidOf l
  ψ := numOf l
  fid_ok f n h := by
    have := List.all_eq_true.1 hl _ (numOf_mem h)
    simpa using this
  body_ok n f h := by
    obtain ⟨fn, hf, h1, h2, h3, h4, h5⟩ := hr _ (fidOf_mem h)
    exact ⟨fn, h1, h3, h4⟩
  tab_ok n f h := by
    obtain ⟨fn, hf, h1, h2, h3, h4, h5⟩ := hr _ (fidOf_mem h)
    exact ⟨fn, hf, h1, h2, h5⟩

theorem full_of {t : NT} {l : List (Nat × FuncId)} (h : t.keys.all (fun n => (fidOf l n).isSome) = true) : ∀ n, (t.find n).isSome = true → ∃ g, fidOf l n = some g := by
  intro n hn
  have := List.all_eq_true.1 h n (NT.find_keys t n hn)
  cases e : fidOf l n with
  | none => rw [e] at this; cases this
  | some g => exact ⟨g, rfl⟩

/-- All that stands, as something that is read only. -/
def roHeap (w : World) : Heap := fun b => (w.heap[b]?).map .ro
theorem sat_roHeap (w : World) : Sat (roHeap w) w := by
  intro b x h
  unfold roHeap at h
  obtain ⟨o, ho, rfl⟩ := Option.map_eq_some_iff.1 h
  exact ho

theorem fr_below {h' : Heap} {w w' : World} (f : Fr (roHeap w) h' w w') : Below w.heap.size w w' :=
  ⟨f.os, f.tape, f.output, f.size, fun k hk => f.keep k hk (.inr ⟨w.heap[k], by unfold roHeap; rw [Array.getElem?_eq_getElem hk]; rfl⟩)⟩

/-- A statement's call: it answers 'true', and nothing that was there before has turned. -/
theorem row_of {E : Env} {n : Nat} {f : FuncId} (hf : E.fid n = some f) {args : List Value} {w : World} (a : ACallN E n args (roHeap w) fun v _ => v = .bool true) :
    Calls E.P f args.toArray w fun e w' => e = .returned (.bool true) ∧ Below w.heap.size w w' :=
  (a f hf w (sat_roHeap w)).mono fun e w' ⟨v, h', he, _, hf, hv⟩ => ⟨hv ▸ he, fr_below hf⟩

theorem wf_i64 {a : Int} (h : (Lit.int .i64 a).wf = true) : -9223372036854775808 ≤ a ∧ a ≤ 9223372036854775807 := by
  simp only [Lit.wf, Bool.and_eq_true, decide_eq_true_eq] at h
  have e1 : IntKind.i64.min = -9223372036854775808 := by decide
  have e2 : IntKind.i64.max = 9223372036854775807 := by decide
  rw [e1, e2] at h
  exact h
end Go.Bb
