/- Code: compiling, and the rules of the short form. -/
import Derived.Test.YtgoifophjcbpaaaBbM
import Derived.Scope
import Derived.Orders
namespace Go.Bb
set_option linter.unusedSimpArgs false
set_option linter.unusedVariables false

/-- For a region: what is kept behind it; for a drawn one: the order that is walked, and how far back each one may stand. -/
abbrev Hint := List (Nat × List Nat × List (Nat × Nat))

section
variable (P : Program) (ψ : FuncId → Option Nat) (N : Nat)

def guardOf (ops : Array Oper) : Option (Nat × Bool) → Option (Option (Nat × Bool))
  | none => some none
  | some (j, w) => ((ops[j]?).bind (·.dst)).map fun t => some (t, w)

def dstOk : Option Nat → Bool
  | none => true
  | some d => decide (d < N)

def compOper (ops : Array Oper) (i : Nat) : Option AOper :=
  match ops[i]? with
  | none => none
  | some o =>
    match guardOf ops o.guard with
    | none => none
    | some g =>
      if dstOk N o.dst = true then some { dst := o.dst, op := (compOp P ψ o.op).getD .bad, guard := g } else none

def compOpers (ops : Array Oper) : List Nat → Option (List AOper)
  | [] => some []
  | i :: is =>
    match compOper P ψ N ops i, compOpers ops is with
    | some a, some as => some (a :: as)
    | _, _ => none
end

/-! ### drawn orders: the check -/
def AOp.isW : AOp → Bool
  | .store .. | .call .. | .callv .. | .append .. | .appendZ .. | .copy .. | .mupd .. | .mdel .. | .bytesOf .. | .mark .. => true
  | _ => false
def AOp.isA : AOp → Bool
  | .alloc .. | .box .. | .bslice .. | .mslice .. | .mmap => true
  | _ => false

def Opd.tmps : Opd → List Nat
  | .t i => [i]
  | _ => []
def opdsT (xs : List Opd) : List Nat := xs.flatMap Opd.tmps
def optT : Option Opd → List Nat
  | some x => x.tmps
  | none => []

/-- The temporaries that an operation looks at. -/
def AOp.looks : AOp → List Nat
  | .mv x | .load _ x | .nilc x | .un _ x | .conv _ x | .strOf x | .strId x | .faddr _ x | .field _ _ x | .ext x _ | .lenS x | .lenStr x | .capS x | .arrOf _ x | .lenM x | .box x | .bytesOf x | .mark x => x.tmps
  | .pick a b c => a.tmps ++ b.tmps ++ c.tmps
  | .bin _ x y | .eqv _ _ x y | .eqa _ _ x y | .iaddrA _ _ x y | .iaddrS _ x y | .idxA _ _ _ x y | .idxS x y | .mn x y | .mx x y | .lookup _ _ _ x y | .mslice _ _ x y | .store _ x y | .append _ _ x y | .appendZ _ _ _ x y | .copy _ x y | .mdel _ x y => x.tmps ++ y.tmps
  | .slStr x a b => x.tmps ++ optT a ++ optT b
  | .slSl _ x a b c | .slArr _ _ x a b c => x.tmps ++ optT a ++ optT b ++ optT c
  | .fn _ a b => opdsT a ++ opdsT b
  | .build _ ps | .bslice _ _ _ ps => opdsT (ps.map (·.2.2))
  | .prim _ xs | .call _ xs => opdsT xs
  | .callv f xs => f.tmps ++ opdsT xs
  | .mupd _ a b c => a.tmps ++ b.tmps ++ c.tmps
  | .num _ | .alloc _ | .mmap | .bad => []

def AOper.looks (o : AOper) : List Nat := o.op.looks ++ (match o.guard with | some (g, _) => [g] | none => [])

/-- Two operations that touch nothing of one another's among the temporaries. -/
def apartA (x y : AOper) : Bool :=
  (match x.dst with | some d => !(y.looks.contains d) && y.dst != some d | none => true) &&
  (match y.dst with | some d => !(x.looks.contains d) | none => true)

/-- Which ones stand ahead, straight or by others (a number's bits). -/
def anc (ops : Array Oper) : Array Nat := Region.before ops

/-- The pairs of an order: what stands ahead of one without being bound to it touches nothing of it; a writing one has none such; a reading one may be passed by so many writing ones. -/
def pairsOk (bf : Nat → Nat → Bool) : List (Nat × Nat × AOper) → List (Nat × Nat × AOper) → Bool
  | _, [] => true
  | pre, x :: rest =>
    ((pre.filter fun y => !(bf x.1 y.1)).all fun y => apartA y.2.2 x.2.2) &&
    (if x.2.2.op.isW then (pre.filter fun y => !(bf x.1 y.1)).isEmpty
      else x.2.2.op.isA || decide (((pre.filter fun y => !(bf x.1 y.1)).filter fun y => y.2.2.op.isW).length ≤ x.2.1)) &&
    pairsOk bf (pre ++ [x]) rest

/-- Every edge leads to one that stands ahead in the order. -/
def edgesOk (ops : Array Oper) : List Nat → List Nat → Bool
  | _, [] => true
  | pre, i :: rest => (match ops[i]? with | some o => o.after.toList.all fun e => !Region.binds .any e || pre.contains e.on | none => false) && edgesOk ops (pre ++ [i]) rest

/-- The bits say what stands ahead. -/
def ancOk (ops : Array Oper) (A : Array Nat) : Bool :=
  (List.range ops.size).all fun i =>
    match ops[i]? with
    | some o => (o.after.toList.all fun e => !Region.binds .any e || decide (e.on < i)) &&
      A.getD i 0 == o.after.toList.foldl (fun s e => if Region.binds .any e then s ||| 2 ^ e.on ||| A.getD e.on 0 else s) 0
    | none => false

def distinct : List Nat → Bool
  | [] => true
  | x :: r => !(r.contains x) && distinct r

def drawOk (ops : Array Oper) (l : List (Nat × Nat × AOper)) : Bool :=
  ancOk ops (anc ops) && pairsOk (fun i j => ((anc ops).getD i 0).testBit j) [] l && edgesOk ops [] (l.map (·.1)) && ((List.range ops.size).all fun i => (l.map (·.1)).contains i) && distinct (l.map (·.1)) && (l.all fun x => decide (x.1 < ops.size)) && decide (l.length ≤ ops.size)

section
variable (P : Program) (ψ : FuncId → Option Nat) (N : Nat)

def compDraw (ops : Array Oper) : List (Nat × Nat) → Option (List (Nat × Nat × AOper))
  | [] => some []
  | (i, b) :: r =>
    match compOper P ψ N ops i, compDraw ops r with
    | some o, some os => some ((i, b, o) :: os)
    | _, _ => none

def compC (H : Hint) : Code → Option ACode
  | .skip => some .skip
  | .region id ops draw =>
    match H.find? (·.1 == id) with
    | none => none
    | some (_, keep, order) =>
      if draw then
        if P.follows .mixedOrders then
          match compDraw P ψ N ops order with
          | some l => if drawOk ops l then some (.dops (l.map fun (i, b, o) => { ix := i, dst := o.dst, op := o.op, guard := o.guard, back := b }) keep) else none
          | none => none
        else none
      else (compOpers P ψ N ops (List.range ops.size)).map fun os => .ops os keep
  | .seq a b =>
    match compC H a, compC H b with
    | some x, some y => some (.seq x y)
    | _, _ => none
  | .cond c a b =>
    match conO ψ c, compC H a, compC H b with
    | some c, some x, some y => some (.cond c x y)
    | _, _, _ => none
  | .block id c => (compC H c).map (.block id)
  | .loop c => (compC H c).map .loop
  | .scope c => (compC H c).map .scope
  | .label _ => some .skip
  | .exit id => some (.exit id)
  | .ret => some .ret
  | _ => some .bad

def compR : List ResultVar → Option (List ARes)
  | [] => some []
  | .tmp t :: r => (compR r).map (.tmp t :: ·)
  | .cell a t :: r =>
    match kindT P t, compR r with
    | some k, some rs => some (.cell a k :: rs)
    | _, _ => none

/-- A function in short form. -/
def compF (H : Hint) (fn : Func) : Option AFunc :=
  match fn.body with
  | none => none
  | some c =>
    match compC P ψ fn.ntmps H c, compR P fn.results.toList with
    | some b, some rs => some { np := fn.params.size, nt := fn.ntmps, results := rs, body := b }
    | _, _ => none
end

/-- The environment in which the table's functions are those of the program. -/
structure EnvT (tab : Nat → Option (Hint × AFunc)) extends Env where
  tab_ok : ∀ n f, fid n = some f → ∃ fn hf, P.funcs[f]? = some fn ∧ tab n = some hf ∧ compF P ψ hf.1 fn = some hf.2
  full : ∀ n, (tab n).isSome = true → ∃ g, fid n = some g

/-- The table, as a tree by numbers. -/
inductive NT where
  | leaf
  | node (k : Nat) (v : Hint × AFunc) (l r : NT)
noncomputable def NT.find (t : NT) (n : Nat) : Option (Hint × AFunc) :=
  NT.rec (motive := fun _ => Option (Hint × AFunc)) none (fun k v _ _ l r => Bool.rec (motive := fun _ => Option (Hint × AFunc)) (Bool.rec (motive := fun _ => Option (Hint × AFunc)) r l (Nat.ble n k)) (some v) (Nat.beq n k)) t
def NT.keys : NT → List Nat
  | .leaf => []
  | .node k _ l r => l.keys ++ k :: r.keys
theorem NT.find_node (k : Nat) (v : Hint × AFunc) (l r : NT) (n : Nat) : (NT.node k v l r).find n = if n = k then some v else if n ≤ k then l.find n else r.find n := by
  have e : (NT.node k v l r).find n = Bool.rec (motive := fun _ => Option (Hint × AFunc)) (Bool.rec (motive := fun _ => Option (Hint × AFunc)) (r.find n) (l.find n) (Nat.ble n k)) (some v) (Nat.beq n k) := rfl
  rw [e]
  cases h : Nat.beq n k with
  | true => rw [if_pos (Nat.eq_of_beq_eq_true h)]
  | false =>
    rw [if_neg (fun q => by rw [q, Nat.beq_refl] at h; cases h)]
    cases g : Nat.ble n k with
    | true => rw [if_pos (Nat.le_of_ble_eq_true g)]
    | false => rw [if_neg (fun q => by rw [Nat.ble_eq_true_of_le q] at g; cases g)]
theorem NT.find_keys : ∀ (t : NT) (n : Nat), (t.find n).isSome = true → n ∈ t.keys
  | .leaf, n, h => by cases h
  | .node k v l r, n, h => by
    rw [NT.find_node] at h
    simp only [NT.keys, List.mem_append, List.mem_cons]
    split at h
    · rename_i e; exact .inr (.inl e)
    · split at h
      · exact .inl (NT.find_keys l n h)
      · exact .inr (.inr (NT.find_keys r n h))

/-! ### what is known of the temporaries -/
def Tok (N : Nat) (t : T) (a : Act) : Prop := a.tmps.size = N ∧ a.defers = [] ∧ ∀ i v, t i = some v → a.tmps.getD i undef = v

theorem Tok.agree {E : Env} {N : Nat} {t : T} {a : Act} (h : Tok N t a) : Agree E.ψ (oev E.fid t) a.eval := by
  intro x y v hx hy
  cases x with
  | tmp i =>
    simp only [conO, Option.some.injEq] at hx; subst hx
    simp only [oev] at hy
    exact h.2.2 i v hy
  | const c =>
    simp only [conO, Option.some.injEq] at hx; subst hx
    simp only [oev, Option.some.injEq] at hy; subst hy
    rfl
  | func f =>
    simp only [conO, Option.map_eq_some_iff] at hx
    obtain ⟨n, hn, rfl⟩ := hx
    simp only [oev, Option.map_eq_some_iff] at hy
    obtain ⟨g, hg, rfl⟩ := hy
    have := E.fid_ok f n hn
    rw [this] at hg
    simp only [Option.some.injEq] at hg; subst hg
    rfl
  | global g => simp [conO] at hx

theorem Tok.put {N : Nat} {t : T} {a : Act} (h : Tok N t a) {d : Option Nat} (hd : ∀ i, d = some i → i < N) (v : Value) : Tok N (tput t d v) (a.put d v) := by
  cases d with
  | none => exact h
  | some d =>
    have hlt := hd d rfl
    refine ⟨by simp [Act.put, h.1], h.2.1, ?_⟩
    intro i u hu
    simp only [tput] at hu
    simp only [Act.put]
    split at hu
    · rename_i e; subst e
      simp only [Option.some.injEq] at hu; subst hu
      have : i < a.tmps.size := by rw [h.1]; exact hlt
      simp [this]
    · rename_i e
      have := h.2.2 i u hu
      rw [← this]
      simp [Array.getElem?_setIfInBounds_ne (Ne.symm e)]

theorem tl_mem : ∀ (l : List (Nat × Value)) (i : Nat) (v : Value), tl l i = some v → (i, v) ∈ l
  | [], i, v, h => by simp [tl] at h
  | (j, u) :: l, i, v, h => by
    simp only [tl] at h
    split at h
    · rename_i e; subst e; simp only [Option.some.injEq] at h; subst h; simp
    · exact List.mem_cons_of_mem _ (tl_mem l i v h)

theorem Tok.keep {N : Nat} {t : T} {a : Act} (h : Tok N t a) (ks : List Nat) : Tok N (tkeep ks t) a := by
  refine ⟨h.1, h.2.1, ?_⟩
  intro i v hv
  have := tl_mem _ _ _ hv
  simp only [List.mem_filterMap, Option.map_eq_some_iff, Prod.mk.injEq] at this
  obtain ⟨k, _, u, hu, rfl, rfl⟩ := this
  exact h.2.2 k u hu

inductive AExit where
  | normal
  | exit (id : Nat)
  | ret

def AExit.toExit : AExit → Exit
  | .normal => .normal
  | .exit id => .exit id
  | .ret => .ret

/-- What a piece of code comes to. -/
def Post (N : Nat) (h : Heap) (w : World) (Q : AExit → T → Heap → Prop) : Exit → Act → World → Prop :=
  fun e a' w' => ∃ e' t' h', e = AExit.toExit e' ∧ Tok N t' a' ∧ Sat h' w' ∧ Fr h h' w w' ∧ Q e' t' h'

def AWp (E : Env) (N : Nat) (c : Code) (Q : AExit → T → Heap → Prop) (t : T) (h : Heap) : Prop :=
  ∀ a w, Tok N t a → Sat h w → c.wp E.P (Post N h w Q) a w

def AW (E : Env) (N : Nat) (ac : ACode) (Q : AExit → T → Heap → Prop) (t : T) (h : Heap) : Prop :=
  ∀ H c, compC E.P E.ψ N H c = some ac → AWp E N c Q t h

theorem Post.trans {N : Nat} {h h1 : Heap} {w w1 : World} {Q : AExit → T → Heap → Prop} (f : Fr h h1 w w1) {e : Exit} {a' : Act} {w' : World} (p : Post N h1 w1 Q e a' w') : Post N h w Q e a' w' := by
  obtain ⟨e', t', h', he, ht, hs, hf, hq⟩ := p
  exact ⟨e', t', h', he, ht, hs, f.trans hf, hq⟩

section
variable {E : Env} {N : Nat} {Q : AExit → T → Heap → Prop} {t : T} {h : Heap}

theorem AWp.mono {c : Code} {Q' : AExit → T → Heap → Prop} (x : AWp E N c Q t h) (hq : ∀ e t h, Q e t h → Q' e t h) : AWp E N c Q' t h :=
  fun a w ht hs => wp_mono (x a w ht hs) fun _ _ _ ⟨e', t', h', he, ht, hs, hf, hk⟩ => ⟨e', t', h', he, ht, hs, hf, hq _ _ _ hk⟩

theorem AW.mono {c : ACode} {Q' : AExit → T → Heap → Prop} (x : AW E N c Q t h) (hq : ∀ e t h, Q e t h → Q' e t h) : AW E N c Q' t h :=
  fun H c hc => (x H c hc).mono hq

def qSeq (K : T → Heap → Prop) (Q : AExit → T → Heap → Prop) : AExit → T → Heap → Prop
  | .normal, t, h => K t h
  | e, t, h => Q e t h

def qBlock (id : Nat) (Q : AExit → T → Heap → Prop) : AExit → T → Heap → Prop
  | .exit i, t, h => if i = id then Q .normal t h else Q (.exit i) t h
  | e, t, h => Q e t h

theorem aw_skip (q : Q .normal t h) : AW E N .skip Q t h := by
  intro H c hc a w ht hs
  cases c <;> simp only [compC] at hc <;> try (cases hc; done)
  case skip => exact wp_skip ⟨.normal, t, h, rfl, ht, hs, Fr.refl _ _, q⟩
  case label => exact wp_label ⟨.normal, t, h, rfl, ht, hs, Fr.refl _ _, q⟩
  all_goals (repeat' (first | (cases hc; done) | (split at hc)))
  all_goals (simp only [Option.map_eq_some_iff] at hc; obtain ⟨_, _, hc⟩ := hc; cases hc)

theorem aw_exit {id : Nat} (q : Q (.exit id) t h) : AW E N (.exit id) Q t h := by
  intro H c hc a w ht hs
  cases c <;> simp only [compC] at hc <;> try (cases hc; done)
  case exit i =>
    simp only [Option.some.injEq, ACode.exit.injEq] at hc; subst hc
    exact wp_exit ⟨.exit i, t, h, rfl, ht, hs, Fr.refl _ _, q⟩
  all_goals (repeat' (first | (cases hc; done) | (split at hc)))
  all_goals (simp only [Option.map_eq_some_iff] at hc; obtain ⟨_, _, hc⟩ := hc; cases hc)

theorem aw_ret (q : Q .ret t h) : AW E N .ret Q t h := by
  intro H c hc a w ht hs
  cases c <;> simp only [compC] at hc <;> try (cases hc; done)
  case ret => exact wp_ret ⟨.ret, t, h, rfl, ht, hs, Fr.refl _ _, q⟩
  all_goals (repeat' (first | (cases hc; done) | (split at hc)))
  all_goals (simp only [Option.map_eq_some_iff] at hc; obtain ⟨_, _, hc⟩ := hc; cases hc)

theorem aw_seq {x y : ACode} (p : AW E N x (qSeq (AW E N y Q) Q) t h) : AW E N (.seq x y) Q t h := by
  intro H c hc a w ht hs
  cases c <;> simp only [compC] at hc <;> try (cases hc; done)
  case seq c1 c2 =>
    split at hc
    · rename_i x' y' h1 h2
      simp only [Option.some.injEq, ACode.seq.injEq] at hc
      obtain ⟨rfl, rfl⟩ := hc
      refine wp_seq (wp_mono (p H c1 h1 a w ht hs) ?_)
      rintro e a' w' ⟨e', t', h', rfl, ht', hs', hf, hq⟩
      cases e' with
      | normal => exact wp_mono (hq H c2 h2 a' w' ht' hs') fun _ _ _ hp => Post.trans hf hp
      | exit i => exact ⟨.exit i, t', h', rfl, ht', hs', hf, hq⟩
      | ret => exact ⟨.ret, t', h', rfl, ht', hs', hf, hq⟩
    · cases hc
  all_goals (repeat' (first | (cases hc; done) | (split at hc)))
  all_goals (simp only [Option.map_eq_some_iff] at hc; obtain ⟨_, _, hc⟩ := hc; cases hc)

theorem aw_block {id : Nat} {x : ACode} (p : AW E N x (qBlock id Q) t h) : AW E N (.block id x) Q t h := by
  intro H c hc a w ht hs
  cases c <;> simp only [compC] at hc <;> try (cases hc; done)
  case block i c1 =>
    simp only [Option.map_eq_some_iff] at hc
    obtain ⟨x', h1, hc⟩ := hc
    simp only [ACode.block.injEq] at hc
    obtain ⟨rfl, rfl⟩ := hc
    refine wp_block (wp_mono (p H c1 h1 a w ht hs) ?_)
    rintro e a' w' ⟨e', t', h', rfl, ht', hs', hf, hq⟩
    cases e' with
    | normal => exact ⟨.normal, t', h', rfl, ht', hs', hf, hq⟩
    | exit j =>
      simp only [qBlock] at hq
      simp only [AExit.toExit, Exit.inBlock]
      split at hq
      · rename_i hj; rw [if_pos hj]; exact ⟨.normal, t', h', rfl, ht', hs', hf, hq⟩
      · rename_i hj; rw [if_neg hj]; exact ⟨.exit j, t', h', rfl, ht', hs', hf, hq⟩
    | ret => exact ⟨.ret, t', h', rfl, ht', hs', hf, hq⟩
  all_goals (repeat' (first | (cases hc; done) | (split at hc)))
  all_goals (simp only [Option.map_eq_some_iff] at hc; obtain ⟨_, _, hc⟩ := hc; cases hc)

theorem aw_scope {x : ACode} (p : AW E N x Q t h) : AW E N (.scope x) Q t h := by
  intro H c hc a w ht hs
  cases c <;> simp only [compC] at hc <;> try (cases hc; done)
  case scope c1 =>
    simp only [Option.map_eq_some_iff] at hc
    obtain ⟨x', h1, hc⟩ := hc
    simp only [ACode.scope.injEq] at hc
    subst hc
    refine wp_scope_straight (wp_mono (p H c1 h1 a w ht hs) ?_)
    rintro e a' w' ⟨e', t', h', rfl, ht', hs', hf, hq⟩
    cases e' with
    | normal => exact ⟨.normal, t', h', rfl, ht', hs', hf, hq⟩
    | exit j => exact ⟨.exit j, t', h', rfl, ht', hs', hf, hq⟩
    | ret => exact ⟨.ret, t', h', rfl, ht', hs', hf, hq⟩
  all_goals (repeat' (first | (cases hc; done) | (split at hc)))
  all_goals (simp only [Option.map_eq_some_iff] at hc; obtain ⟨_, _, hc⟩ := hc; cases hc)

theorem aw_cond {c0 : Opd} {x y : ACode} {b : Bool} (hb : oev E.fid t c0 = some (.bool b)) (p : b = true → AW E N x Q t h) (q : b = false → AW E N y Q t h) : AW E N (.cond c0 x y) Q t h := by
  intro H c hc a w ht hs
  cases c <;> simp only [compC] at hc <;> try (cases hc; done)
  case cond c1 ca cb =>
    split at hc
    · rename_i c' x' y' h0 h1 h2
      simp only [Option.some.injEq, ACode.cond.injEq] at hc
      obtain ⟨rfl, rfl, rfl⟩ := hc
      exact wp_cond_split (ht.agree _ _ _ h0 hb) (fun e => p e H ca h1 a w ht hs) (fun e => q e H cb h2 a w ht hs)
    · cases hc
  all_goals (repeat' (first | (cases hc; done) | (split at hc)))
  all_goals (simp only [Option.map_eq_some_iff] at hc; obtain ⟨_, _, hc⟩ := hc; cases hc)

theorem wp_loopN {P : Program} {c : Code} {Q : Exit → Act → World → Prop} {a : Act} {w : World} (J : Nat → Act → World → Prop) (n0 : Nat) (h₀ : J n0 a w)
    (round : ∀ n a w, J n a w → c.wp P (Exit.then (fun a' w' => ∃ m, m < n ∧ J m a' w') Q) a w) : (Code.loop c).wp P Q a w := by
  intro b k cs
  have key : ∀ n a w, J n a w →
      ∃ e a' w', Q e a' w' ∧ Arrives P (lone (b.at a (.code c :: .inLoop c :: k)) cs w) b k cs e a' w' := by
    intro n
    induction n using Nat.strongRecOn with
    | _ n ih =>
      intro a w hI
      obtain ⟨e, a₁, w₁, hq, harr⟩ := round n a w hI b (.inLoop c :: k) cs
      cases e with
      | normal =>
        obtain ⟨m, hlt, hI₁⟩ := hq
        obtain ⟨e₂, a₂, w₂, hq₂, harr₂⟩ := ih m hlt a₁ w₁ hI₁
        exact ⟨e₂, a₂, w₂, hq₂, .of_steps (Steps.trans harr (.one step_inLoop)) harr₂⟩
      | exit id => exact ⟨_, a₁, w₁, hq, .pass (x := .inLoop c) rfl (fun _ _ => .inl (by simp)) harr⟩
      | goto l => exact ⟨_, a₁, w₁, hq, .pass (x := .inLoop c) rfl (fun _ _ => .inl (by simp)) harr⟩
      | ret => exact ⟨_, a₁, w₁, hq, .pass (x := .inLoop c) rfl (fun _ _ => .inl (by simp)) harr⟩
      | panic ch => exact ⟨_, a₁, w₁, hq, .pass (x := .inLoop c) rfl (fun _ _ => .inl (by simp)) harr⟩
      | outgrown => exact ⟨_, a₁, w₁, hq, .pass (x := .inLoop c) rfl (fun _ _ => .inl (by simp)) harr⟩
  obtain ⟨e, a', w', hq, harr⟩ := key n0 a w h₀
  exact ⟨e, a', w', hq, .of_steps (.one step_loop) harr⟩

/-- A loop, by a relation with a number that every round lowers. -/
theorem aw_loop {x : ACode} (I : Nat → T → Heap → Prop) (n : Nat) (h0 : I n t h) (round : ∀ n t h, I n t h → AW E N x (qSeq (fun t h => ∃ m, m < n ∧ I m t h) Q) t h) : AW E N (.loop x) Q t h := by
  intro H c hc a w ht hs
  cases c <;> simp only [compC] at hc <;> try (cases hc; done)
  case loop c1 =>
    simp only [Option.map_eq_some_iff] at hc
    obtain ⟨x', h1, hc⟩ := hc
    simp only [ACode.loop.injEq] at hc
    subst hc
    let J : Nat → Act → World → Prop := fun n a' w' => ∃ t' h', Tok N t' a' ∧ Sat h' w' ∧ Fr h h' w w' ∧ I n t' h'
    refine wp_loopN J n ⟨t, h, ht, hs, Fr.refl _ _, h0⟩ ?_
    intro n1 a1 w1 hI
    obtain ⟨t1, hp1, ht1, hs1, hf1, hi1⟩ := hI
    refine wp_mono (round _ t1 hp1 hi1 H c1 h1 a1 w1 ht1 hs1) ?_
    rintro e a' w' ⟨e', t', h', rfl, ht', hs', hf, hq⟩
    cases e' with
    | normal =>
      obtain ⟨m, hm, hIm⟩ := hq
      exact ⟨m, hm, t', h', ht', hs', hf1.trans hf, hIm⟩
    | exit j => exact ⟨.exit j, t', h', rfl, ht', hs', hf1.trans hf, hq⟩
    | ret => exact ⟨.ret, t', h', rfl, ht', hs', hf1.trans hf, hq⟩
  all_goals (repeat' (first | (cases hc; done) | (split at hc)))
  all_goals (simp only [Option.map_eq_some_iff] at hc; obtain ⟨_, _, hc⟩ := hc; cases hc)


/-! ### a region in the text's order -/
def runOps (E : Env) : List AOper → (T → Heap → Prop) → T → Heap → Prop
  | [], K, t, h => K t h
  | o :: os, K, t, h =>
    match o.guard with
    | none => step E (oev E.fid t) h o.op fun v h' => runOps E os K (tput t o.dst v) h'
    | some (g, want) =>
      match t g with
      | some (.bool b) =>
        if b = want then step E (oev E.fid t) h o.op fun v h' => runOps E os K (tput t o.dst v) h'
        else runOps E os K (tput t o.dst undef) h
      | _ => False

theorem compOper_spec {P : Program} {ψ : FuncId → Option Nat} {N : Nat} {ops : Array Oper} {i : Nat} {ao : AOper} (hc : compOper P ψ N ops i = some ao) :
    ∃ o, ops[i]? = some o ∧ ao.dst = o.dst ∧ (∀ d, o.dst = some d → d < N) ∧ (ao.op = .bad ∨ compOp P ψ o.op = some ao.op) ∧
      ((o.guard = none ∧ ao.guard = none) ∨ (∃ j w g, o.guard = some (j, w) ∧ ao.guard = some (g, w) ∧ (ops[j]?).bind (·.dst) = some g)) := by
  unfold compOper at hc
  split at hc
  · cases hc
  · rename_i o ho
    split at hc
    · cases hc
    · rename_i g hg
      split at hc
      · rename_i hd
        simp only [Option.some.injEq] at hc
        subst hc
        refine ⟨o, ho, rfl, ?_, ?_, ?_⟩
        · intro d hd'
          rw [hd'] at hd
          simpa [dstOk] using hd
        · cases hco : compOp P ψ o.op with
          | none => exact .inl rfl
          | some x => exact .inr rfl
        · cases hgs : o.guard with
          | none =>
            rw [hgs] at hg
            simp only [guardOf, Option.some.injEq] at hg; subst hg
            exact .inl ⟨rfl, rfl⟩
          | some jw =>
            obtain ⟨j, w⟩ := jw
            rw [hgs] at hg
            simp only [guardOf, Option.map_eq_some_iff] at hg
            obtain ⟨tt, htt, rfl⟩ := hg
            exact .inr ⟨j, w, tt, rfl, rfl, htt⟩
      · cases hc

theorem yielded_of {t : T} {a : Act} (ht : Tok N t a) {ops : Array Oper} {j g : Nat} (hj : (ops[j]?).bind (·.dst) = some g) {b : Bool} (hb : t g = some (.bool b)) : yielded ops a.tmps j = some b := by
  have := ht.2.2 g _ hb
  unfold yielded
  rw [hj]
  simp only [Option.bind_some]
  cases e : a.tmps[g]? with
  | none => simp [Array.getD_eq_getD_getElem?, e, undef] at this
  | some v => simp [Array.getD_eq_getD_getElem?, e] at this; rw [this]

/-- One operation with its guard. -/
theorem oper_wp {ops : Array Oper} {i : Nat} {ao : AOper} (hc : compOper E.P E.ψ N ops i = some ao) {a : Act} {w : World} (ht : Tok N t a) (hs : Sat h w) {K : Value → Heap → Prop}
    (hK : match ao.guard with
      | none => step E (oev E.fid t) h ao.op K
      | some (g, want) => match t g with
        | some (.bool b) => if b = want then step E (oev E.fid t) h ao.op K else K undef h
        | _ => False) {next : Act → World → Prop} {Q' : Exit → Act → World → Prop}
    (hn : ∀ v h' w' a', Tok N (tput t ao.dst v) a' → Sat h' w' → Fr h h' w w' → K v h' → next a' w') : wpOp E.P ops Q' i next a w := by
  obtain ⟨o, ho, hd, hdN, hop, hg⟩ := compOper_spec hc
  unfold wpOp
  rw [ho]
  simp only
  have hput : ∀ v, Tok N (tput t ao.dst v) (a.put o.dst v) := fun v => by rw [hd]; exact ht.put hdN v
  have hstep : step E (oev E.fid t) h ao.op K → o.wp E.P a w next Q' := by
    intro hK
    rcases hop with hbad | hco
    · rw [hbad] at hK; exact hK.elim
    · exact step_sound hs ht.agree hco hK fun v h' w' hs' hf hk => hn v h' w' _ (hput v) hs' hf hk
  rcases hg with ⟨g1, g2⟩ | ⟨j, want, g, g1, g2, g3⟩
  · rw [g2] at hK
    simp only [Region.wanted, g1, if_true]
    exact .inl (hstep hK)
  · rw [g2] at hK
    simp only at hK
    split at hK
    · rename_i b hb
      have hy := yielded_of ht g3 hb
      simp only [Region.wanted, g1, hy]
      split at hK
      · rename_i hbw
        subst hbw
        rw [if_pos (by simp)]
        exact .inl (hstep hK)
      · rename_i hbw
        rw [if_neg (by simpa using hbw)]
        exact hn undef h w _ (hput undef) hs (Fr.refl _ _) hK
    · exact hK.elim

theorem runOps_sound {ops : Array Oper} : ∀ (is : List Nat) (os : List AOper) (K : T → Heap → Prop) (t : T) (h : Heap) (a : Act) (w : World), compOpers E.P E.ψ N ops is = some os → runOps E os K t h → Tok N t a → Sat h w →
    ∀ {Q' : Exit → Act → World → Prop}, (∀ t' h' a' w', Tok N t' a' → Sat h' w' → Fr h h' w w' → K t' h' → Q' .normal a' w') → wpOps E.P ops Q' is a w
  | [], os, K, t, h, a, w, hc, hr, ht, hs, Q', hq => by
    simp only [compOpers, Option.some.injEq] at hc; subst hc
    exact hq t h a w ht hs (Fr.refl _ _) hr
  | i :: is, os, K, t, h, a, w, hc, hr, ht, hs, Q', hq => by
    simp only [compOpers] at hc
    split at hc
    · rename_i ao as h1 h2
      simp only [Option.some.injEq] at hc; subst hc
      rw [wpOps_cons]
      refine oper_wp (K := fun v h' => runOps E as K (tput t ao.dst v) h') h1 ht hs ?_ ?_
      · simp only [runOps] at hr
        exact hr
      · intro v h' w' a' ht' hs' hf hk
        exact runOps_sound is as K _ h' a' w' h2 hk ht' hs' fun t2 h2 a2 w2 ht2 hs2 hf2 hk2 => hq t2 h2 a2 w2 ht2 hs2 (hf.trans hf2) hk2
    · cases hc

theorem aw_ops {os : List AOper} {keep : List Nat} (p : runOps E os (fun t h => Q .normal (tkeep keep t) h) t h) : AW E N (.ops os keep) Q t h := by
  intro H c hc a w ht hs
  cases c <;> simp only [compC] at hc <;> try (cases hc; done)
  case region id ops draw =>
    split at hc
    · cases hc
    · rename_i x keep' order hfind
      split at hc
      · split at hc
        · split at hc
          · split at hc
            · cases hc
            · cases hc
          · cases hc
        · cases hc
      · rename_i hdraw
        simp only [Option.map_eq_some_iff] at hc
        obtain ⟨os', hos, hc⟩ := hc
        simp only [ACode.ops.injEq] at hc
        obtain ⟨rfl, rfl⟩ := hc
        have hd : draw = false := by simpa using hdraw
        subst hd
        refine wp_region (runOps_sound (E := E) (N := N) _ _ _ t h a w hos p ht hs ?_)
        intro t' h' a' w' ht' hs' hf hk
        exact ⟨.normal, _, h', rfl, ht'.keep _, hs', hf, hk⟩
  all_goals (repeat' (first | (cases hc; done) | (split at hc)))
  all_goals (simp only [Option.map_eq_some_iff] at hc; obtain ⟨_, _, hc⟩ := hc; cases hc)

/-! ### functions -/
def retL : List ARes → T → Heap → Option (List Value)
  | [], _, _ => some []
  | .tmp i :: r, t, h =>
    match t i, retL r t h with
    | some v, some vs => some (v :: vs)
    | _, _ => none
  | .cell i k :: r, t, h =>
    match t i, retL r t h with
    | some (.pointer (some p)), some vs => (readK h p k).map (· :: vs)
    | _, _ => none

def retV : List Value → Value
  | [v] => v
  | vs => .tuple vs.toArray

def qRet (rs : List ARes) (Q : Value → Heap → Prop) : AExit → T → Heap → Prop
  | .exit _, _, _ => False
  | _, t, h => match retL rs t h with | some vs => Q (retV vs) h | none => False

def argsT : Nat → List Value → List (Nat × Value)
  | _, [] => []
  | i, v :: vs => (i, v) :: argsT (i + 1) vs

theorem tok_args (args : List Value) (n : Nat) (hn : args.length ≤ n) : Tok n (tl (argsT 0 args)) { tmps := args.toArray ++ Array.replicate (n - args.toArray.size) undef, defers := [] } := by
  refine ⟨by simp; omega, rfl, ?_⟩
  have key : ∀ (l : List Value) (k i : Nat) (v : Value), tl (argsT k l) i = some v → k ≤ i ∧ l[i - k]? = some v := by
    intro l
    induction l with
    | nil => intro k i v h; simp [argsT, tl] at h
    | cons x l ih =>
      intro k i v h
      simp only [argsT, tl] at h
      split at h
      · rename_i e; subst e; simp only [Option.some.injEq] at h; subst h; simp
      · obtain ⟨h1, h2⟩ := ih (k + 1) i v h
        refine ⟨by omega, ?_⟩
        rw [show i - k = (i - (k + 1)) + 1 from by omega]
        simpa using h2
  intro i v hv
  obtain ⟨_, h2⟩ := key args 0 i v hv
  simp only [Nat.sub_zero] at h2
  have hlt : i < args.length := by
    rcases Nat.lt_or_ge i args.length with g | g
    · exact g
    · rw [List.getElem?_eq_none g] at h2; cases h2
  simp [Array.getD_eq_getD_getElem?, Array.getElem?_append, hlt]
  rw [List.getElem?_eq_getElem hlt] at h2
  simpa using h2

def resM (tmps : Array Value) : ResultVar → Sem Value
  | .tmp t => pure (tmps.getD t undef)
  | .cell ad t => do loadVar t (← asAddr (tmps.getD ad undef))

theorem run_results {P : Program} {fn : Func} {rs : List ARes} {t : T} {a : Act} {w : World} {vs : List Value} (ht : Tok N t a) (hs : Sat h w) (hr : compR P fn.results.toList = some rs) (hv : retL rs t h = some vs) : (results fn a.tmps).run P w = .ok (retV vs) w := by
  have key : ∀ (l : List ResultVar) (rs : List ARes) (vs : List Value), compR P l = some rs → retL rs t h = some vs →
      (l.mapM (resM a.tmps)).run P w = .ok vs w := by
    intro l
    induction l with
    | nil => intro rs vs h1 h2; simp only [compR, Option.some.injEq] at h1; subst h1; simp only [retL, Option.some.injEq] at h2; subst h2; simp
    | cons x l ih =>
      intro rs vs h1 h2
      cases x with
      | tmp i =>
        simp only [compR, Option.map_eq_some_iff] at h1
        obtain ⟨rs', hrs, rfl⟩ := h1
        simp only [retL] at h2
        split at h2
        · rename_i v vs' hv hvs
          simp only [Option.some.injEq] at h2; subst h2
          have := ht.2.2 i v hv
          simp only [List.mapM_cons, Sem.run_bind, Sem.run_pure, Result.andThen_ok, resM, this, ih _ _ hrs hvs]
        · cases h2
      | cell i ty =>
        simp only [compR] at h1
        split at h1
        · rename_i k rs' hk hrs
          simp only [Option.some.injEq] at h1; subst h1
          simp only [retL] at h2
          split at h2
          · rename_i p vs' hv hvs
            simp only [Option.map_eq_some_iff] at h2
            obtain ⟨v, hrv, rfl⟩ := h2
            have := ht.2.2 i _ hv
            simp only [List.mapM_cons, Sem.run_bind, Sem.run_pure, Result.andThen_ok, resM, this, asAddr, run_loadVar' hs hk hrv, ih _ _ hrs hvs]
          · cases h2
        · cases h1
  have h1 := key _ _ _ hr hv
  have h2 : (fn.results.mapM (resM a.tmps)).run P w = .ok vs.toArray w := by
    rw [← Array.toArray_toList (xs := fn.results), List.mapM_toArray]
    simp only [Sem.run_map, h1, Result.andThen_ok]
  have h3 : results fn a.tmps = (do
      let vs ← fn.results.mapM (resM a.tmps)
      pure (if h : vs.size = 1 then vs[0] else .tuple vs)) := by
    unfold results
    congr 1
  rw [h3]
  simp only [Sem.run_bind]
  rw [h2]
  simp only [Result.andThen_ok, Sem.run_pure]
  congr 1
  cases vs with
  | nil => rfl
  | cons v vs => cases vs <;> rfl

end

theorem acall_body {tab : Nat → Option (Hint × AFunc)} {E : EnvT tab} {n : Nat} {args : List Value} {h : Heap} {Q : Value → Heap → Prop} {hf : Hint × AFunc} (htab : tab n = some hf) (hargs : args.length ≤ hf.2.nt)
    (p : AW E.toEnv hf.2.nt hf.2.body (qRet hf.2.results Q) (tl (argsT 0 args)) h) : ACallN E.toEnv n args h Q := by
  intro f hfid w hs
  obtain ⟨fn, hf', hP, ht, hcf⟩ := E.tab_ok n f hfid
  rw [htab] at ht
  simp only [Option.some.injEq] at ht
  subst ht
  unfold compF at hcf
  split at hcf
  · cases hcf
  · rename_i c hb
    split at hcf
    · rename_i b rs hc hrs
      simp only [Option.some.injEq] at hcf
      refine calls_of_wp hP hb ?_
      have hnt : hf.2.nt = fn.ntmps := by rw [← hcf]
      have hbody : hf.2.body = b := by rw [← hcf]
      have hres : hf.2.results = rs := by rw [← hcf]
      rw [hnt] at hargs p
      rw [hbody, hres] at p
      refine wp_mono (p hf.1 c hc _ w (tok_args args fn.ntmps hargs) hs) ?_
      rintro e a' w' ⟨e', t', h', rfl, ht', hs', hf2, hq⟩
      cases e' with
      | exit j => exact hq.elim
      | normal =>
        simp only [qRet] at hq
        split at hq
        · rename_i vs hvs
          exact ⟨ht'.2.1, _, run_results ht' hs' hrs hvs, _, h', rfl, hs', hf2, hq⟩
        · exact hq.elim
      | ret =>
        simp only [qRet] at hq
        split at hq
        · rename_i vs hvs
          exact ⟨ht'.2.1, _, run_results ht' hs' hrs hvs, _, h', rfl, hs', hf2, hq⟩
        · exact hq.elim
    · cases hcf

end Go.Bb
