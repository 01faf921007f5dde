/- What is reckoned with numbers of one's own for blocks is what holds: how values and memory stand to one another. -/
import Derived.Test.YtgoifophjcbpaaaBbV
namespace Go.Bb
set_option linter.unusedVariables false
set_option linter.unusedSimpArgs false

/-- What stands for a block: its number, the first cell, how many cells it has, the element's size if it may grow (0: it may not). -/
structure Rm where
  b : Nat
  sh : Nat
  sz : Nat
  es : Nat
abbrev Rr := Nat → Option Rm
def Rr.le (r r' : Rr) : Prop := ∀ b k, r b = some k → r' b = some k
theorem Rr.le_refl (r : Rr) : r.le r := fun _ _ h => h
theorem Rr.le_trans {a b c : Rr} (h : a.le b) (h' : b.le c) : a.le c := fun x k hx => h' x k (h x k hx)

inductive VRb (r : Rr) : Value → Value → Prop
  | plain {v : Value} (h : plain v = true) : VRb r v v
  | ptr {a : Addr} {k : Rm} (hs : a.spot = none) (hk : r a.block = some k) : VRb r (.pointer (some a)) (.pointer (some ⟨k.b, a.off + k.sh, none⟩))
  | slice {a : Addr} {k : Rm} {n c c' o : Nat} (hs : a.spot = none) (hk : r a.block = some k) (hn : n ≤ c') (h0 : k.es = 0 → c' = c ∧ o = a.off + k.sh)
      (h1 : k.es ≠ 0 → a.off + k.sh + c' * k.es = k.sz ∧ (c' ≠ 0 → o = a.off + k.sh)) : VRb r (.slice (some a) n c) (.slice (some ⟨k.b, o, none⟩) n c')
  | map {b : Nat} {k : Rm} (hk : r b = some k) : VRb r (.map (some b)) (.map (some k.b))

inductive All2 {α β : Type} (R : α → β → Prop) : List α → List β → Prop
  | nil : All2 R [] []
  | cons {a b as bs} (h : R a b) (t : All2 R as bs) : All2 R (a :: as) (b :: bs)

inductive VR0 (fid : Nat → Option FuncId) (r : Rr) : Value → Value → Prop
  | base {v v' : Value} (h : VRb r v v') : VR0 fid r v v'
  | func {n : Nat} {g : FuncId} {a a' c c' : Array Value} (hg : fid n = some g) (ha : All2 (VRb r) a.toList a'.toList) (hc : All2 (VRb r) c.toList c'.toList) :
      VR0 fid r (.func (.func n) a c) (.func (.func g) a' c')

inductive VR1 (fid : Nat → Option FuncId) (r : Rr) : Value → Value → Prop
  | one {v v' : Value} (h : VR0 fid r v v') : VR1 fid r v v'
  | agg {a a' : Array Value} (h : All2 (VR0 fid r) a.toList a'.toList) : VR1 fid r (.agg a) (.agg a')

inductive VR (fid : Nat → Option FuncId) (r : Rr) : Value → Value → Prop
  | one {v v' : Value} (h : VR1 fid r v v') : VR fid r v v'
  | tup {a a' : Array Value} (h : All2 (VR1 fid r) a.toList a'.toList) : VR fid r (.tuple a) (.tuple a')

theorem All2.mono {α β : Type} {R S : α → β → Prop} (h : ∀ a b, R a b → S a b) : ∀ {l : List α} {l' : List β}, All2 R l l' → All2 S l l'
  | _, _, .nil => .nil
  | _, _, .cons x t => .cons (h _ _ x) (t.mono h)
theorem All2.length {α β : Type} {R : α → β → Prop} : ∀ {l : List α} {l' : List β}, All2 R l l' → l.length = l'.length
  | _, _, .nil => rfl
  | _, _, .cons _ t => by simp [t.length]
theorem All2.get {α β : Type} {R : α → β → Prop} : ∀ {l : List α} {l' : List β}, All2 R l l' → ∀ {i : Nat} {a : α}, l[i]? = some a → ∃ b, l'[i]? = some b ∧ R a b
  | _, _, .nil, i, a, h => by simp at h
  | _, _, .cons x t, 0, a, h => by simp at h; subst h; exact ⟨_, by simp, x⟩
  | _, _, .cons x t, i + 1, a, h => by simp at h; obtain ⟨b, h1, h2⟩ := t.get h; exact ⟨b, by simpa using h1, h2⟩
theorem All2.drop {α β : Type} {R : α → β → Prop} : ∀ {l : List α} {l' : List β} (n : Nat), All2 R l l' → All2 R (l.drop n) (l'.drop n)
  | _, _, 0, h => by simpa using h
  | _, _, n + 1, .nil => by simp; exact .nil
  | _, _, n + 1, .cons x t => by simpa using t.drop n
theorem All2.take {α β : Type} {R : α → β → Prop} : ∀ {l : List α} {l' : List β} (n : Nat), All2 R l l' → All2 R (l.take n) (l'.take n)
  | _, _, 0, h => by simp; exact .nil
  | _, _, n + 1, .nil => by simp; exact .nil
  | _, _, n + 1, .cons x t => by simp; exact .cons x (t.take n)
theorem All2.append {α β : Type} {R : α → β → Prop} : ∀ {l : List α} {l' : List β} {m : List α} {m' : List β}, All2 R l l' → All2 R m m' → All2 R (l ++ m) (l' ++ m')
  | _, _, _, _, .nil, h => h
  | _, _, _, _, .cons x t, h => .cons x (t.append h)
theorem All2.refl {α : Type} {R : α → α → Prop} : ∀ {l : List α}, (∀ a ∈ l, R a a) → All2 R l l
  | [], _ => .nil
  | a :: l, h => .cons (h a (by simp)) (All2.refl fun b hb => h b (by simp [hb]))

theorem VRb.mono {r r' : Rr} (h : r.le r') {v v' : Value} : VRb r v v' → VRb r' v v'
  | .plain p => .plain p
  | .ptr hs hk => .ptr hs (h _ _ hk)
  | .slice hs hk hn h0 h1 => .slice hs (h _ _ hk) hn h0 h1
  | .map hk => .map (h _ _ hk)
theorem VR0.mono {fid : Nat → Option FuncId} {r r' : Rr} (h : r.le r') {v v' : Value} : VR0 fid r v v' → VR0 fid r' v v'
  | .base p => .base (p.mono h)
  | .func hg ha hc => .func hg (ha.mono fun _ _ x => x.mono h) (hc.mono fun _ _ x => x.mono h)
theorem VR1.mono {fid : Nat → Option FuncId} {r r' : Rr} (h : r.le r') {v v' : Value} : VR1 fid r v v' → VR1 fid r' v v'
  | .one p => .one (p.mono h)
  | .agg p => .agg (p.mono fun _ _ x => x.mono h)
theorem VR.mono {fid : Nat → Option FuncId} {r r' : Rr} (h : r.le r') {v v' : Value} : VR fid r v v' → VR fid r' v v'
  | .one p => .one (p.mono h)
  | .tup p => .tup (p.mono fun _ _ x => x.mono h)

theorem VR.plain {fid : Nat → Option FuncId} {r : Rr} {v : Value} (h : plain v = true) : VR fid r v v := .one (.one (.base (.plain h)))
theorem VR.int {fid : Nat → Option FuncId} {r : Rr} {k : IntKind} {n : Int} : VR fid r (.int k n) (.int k n) := .plain rfl
theorem VR.bool {fid : Nat → Option FuncId} {r : Rr} {b : Bool} : VR fid r (.bool b) (.bool b) := .plain rfl

section
variable {fid : Nat → Option FuncId} {r : Rr} {v' : Value}
theorem VR.of_int {k : IntKind} {n : Int} (h : VR fid r (.int k n) v') : v' = .int k n := by
  cases h with | one h => cases h with | one h => cases h with | base h => cases h; rfl
theorem VR.of_bool {b : Bool} (h : VR fid r (.bool b) v') : v' = .bool b := by
  cases h with | one h => cases h with | one h => cases h with | base h => cases h; rfl
theorem VR.of_str {b : ByteArray} (h : VR fid r (.string b) v') : v' = .string b := by
  cases h with | one h => cases h with | one h => cases h with | base h => cases h; rfl
theorem VR.of_ptr0 (h : VR fid r (.pointer none) v') : v' = .pointer none := by
  cases h with | one h => cases h with | one h => cases h with | base h => cases h; rfl
theorem VR.of_ptr {a : Addr} (h : VR fid r (.pointer (some a)) v') : ∃ k, a.spot = none ∧ r a.block = some k ∧ v' = .pointer (some ⟨k.b, a.off + k.sh, none⟩) := by
  cases h with | one h => cases h with | one h => cases h with | base h =>
    cases h with
    | plain p => cases p
    | ptr hs hk => exact ⟨_, hs, hk, rfl⟩
theorem VR.of_sl0 {n c : Nat} (h : VR fid r (.slice none n c) v') : v' = .slice none n c := by
  cases h with | one h => cases h with | one h => cases h with | base h => cases h; rfl
theorem VR.of_sl {a : Addr} {n c : Nat} (h : VR fid r (.slice (some a) n c) v') : ∃ k c' o, a.spot = none ∧ r a.block = some k ∧ v' = .slice (some ⟨k.b, o, none⟩) n c' ∧ n ≤ c' ∧ (k.es = 0 → c' = c ∧ o = a.off + k.sh) ∧
    (k.es ≠ 0 → a.off + k.sh + c' * k.es = k.sz ∧ (c' ≠ 0 → o = a.off + k.sh)) := by
  cases h with | one h => cases h with | one h => cases h with | base h =>
    cases h with
    | plain p => cases p
    | slice hs hk hn h0 h1 => exact ⟨_, _, _, hs, hk, rfl, hn, h0, h1⟩
theorem VR.of_map0 (h : VR fid r (.map none) v') : v' = .map none := by
  cases h with | one h => cases h with | one h => cases h with | base h => cases h; rfl
theorem VR.of_map {b : Nat} (h : VR fid r (.map (some b)) v') : ∃ k, r b = some k ∧ v' = .map (some k.b) := by
  cases h with | one h => cases h with | one h => cases h with | base h =>
    cases h with
    | plain p => cases p
    | map hk => exact ⟨_, hk, rfl⟩
theorem VR.of_fn {f : Fn} {a c : Array Value} (h : VR fid r (.func f a c) v') : ∃ n g a' c', f = .func n ∧ fid n = some g ∧ v' = .func (.func g) a' c' ∧ All2 (VRb r) a.toList a'.toList ∧ All2 (VRb r) c.toList c'.toList := by
  cases h with | one h => cases h with | one h => cases h with
    | base h => cases h with | plain p => cases p
    | func hg ha hc => exact ⟨_, _, _, _, rfl, hg, rfl, ha, hc⟩
theorem VR.of_agg {a : Array Value} (h : VR fid r (.agg a) v') : ∃ a', v' = .agg a' ∧ All2 (VR0 fid r) a.toList a'.toList := by
  cases h with | one h => cases h with
    | one h => cases h with | base h => cases h with | plain p => cases p
    | agg h => exact ⟨_, rfl, h⟩
theorem VR.of_tup {a : Array Value} (h : VR fid r (.tuple a) v') : ∃ a', v' = .tuple a' ∧ All2 (VR1 fid r) a.toList a'.toList := by
  cases h with
  | one h => cases h with | one h => cases h with | base h => cases h with | plain p => cases p
  | tup h => exact ⟨_, rfl, h⟩
end

/-! ### looking at a value -/
theorem vInt_some {v : Value} {x : IntE} (h : vInt v = some x) : v = .int x.k x.n := by cases v <;> simp [vInt] at h; subst h; rfl
theorem vBool_some {v : Value} {x : Bool} (h : vBool v = some x) : v = .bool x := by cases v <;> simp [vBool] at h; subst h; rfl
theorem vStr_some {v : Value} {x : ByteArray} (h : vStr v = some x) : v = .string x := by cases v <;> simp [vStr] at h; subst h; rfl
theorem vPtr_some {v : Value} {x : Option Addr} (h : vPtr v = some x) : v = .pointer x := by cases v <;> simp [vPtr] at h; subst h; rfl
theorem vSl_some {v : Value} {x : SlE} (h : vSl v = some x) : v = .slice x.a x.n x.c := by cases v <;> simp [vSl] at h; subst h; rfl
theorem vMap_some {v : Value} {x : Option Nat} (h : vMap v = some x) : v = .map x := by cases v <;> simp [vMap] at h; subst h; rfl
theorem vFn_some {v : Value} {x : FnE} (h : vFn v = some x) : v = .func x.f x.a x.b := by cases v <;> simp [vFn] at h; subst h; rfl
theorem vAgg_some {v : Value} {x : Array Value} (h : vAgg v = some x) : v = .agg x := by cases v <;> simp [vAgg] at h; subst h; rfl
theorem vTup_some {v : Value} {x : Array Value} (h : vTup v = some x) : v = .tuple x := by cases v <;> simp [vTup] at h; subst h; rfl
end Go.Bb
