/- Reckoning: memory. -/
import Derived.Test.YtgoifophjcbpaaaBbXa
namespace Go.Bb
set_option linter.unusedVariables false
set_option linter.unusedSimpArgs false

theorem Tr.get_leaf (n : Nat) : Tr.get .leaf n = none := rfl
theorem brecN {α : Type} (x y : α) (n m : Nat) : (Bool.rec (motive := fun _ => α) x y (Nat.beq n m) : α) = if n = m then y else x := by
  cases e : Nat.beq n m with
  | true => rw [if_pos (Nat.eq_of_beq_eq_true e)]
  | false => rw [if_neg (fun h => by rw [h, Nat.beq_refl] at e; cases e)]
theorem Tr.get_eta (t : Tr) (n : Nat) : t.get n = if n = 0 then t.val else if n % 2 = 1 then t.left.get (n / 2) else t.right.get (n / 2 - 1) := by
  cases t with
  | leaf => simp only [Tr.get_leaf]; split <;> (try split) <;> rfl
  | node v l r =>
    have e : (Tr.node v l r).get n = Bool.rec (motive := fun _ => Option VB) (Bool.rec (motive := fun _ => Option VB) (r.get (n / 2 - 1)) (l.get (n / 2)) (Nat.beq (n % 2) 1)) v (Nat.beq n 0) := rfl
    rw [e, brecN, brecN]; rfl

theorem Tr.set_eta (f : Nat) (t : Tr) (n : Nat) (x : Option VB) : Tr.set (f + 1) t n x = if n = 0 then .node x t.left t.right else if n % 2 = 1 then .node t.val (Tr.set f t.left (n / 2) x) t.right else .node t.val t.left (Tr.set f t.right (n / 2 - 1) x) := by
  have e : Tr.set (f + 1) t n x = Bool.rec (motive := fun _ => Tr) (Bool.rec (motive := fun _ => Tr) (.node t.val t.left (Tr.set f t.right (n / 2 - 1) x)) (.node t.val (Tr.set f t.left (n / 2) x) t.right) (Nat.beq (n % 2) 1)) (.node x t.left t.right) (Nat.beq n 0) := rfl
  rw [e, brecN, brecN]

theorem Tr.get_set : ∀ (f : Nat) (t : Tr) (n m : Nat) (x : Option VB), n + 1 < 2 ^ f → (Tr.set f t n x).get m = if m = n then x else t.get m
  | 0, t, n, m, x, h => by simp at h
  | f + 1, t, n, m, x, h => by
    rw [Nat.pow_succ] at h
    rw [Tr.set_eta, Tr.get_eta t m]
    by_cases h0 : n = 0
    · subst h0
      rw [if_pos rfl, Tr.get_eta]
      simp only [Tr.val, Tr.left, Tr.right]
      by_cases hm : m = 0
      · simp [hm]
      · simp only [hm, if_false]
    · rw [if_neg h0]
      by_cases h1 : n % 2 = 1
      · rw [if_pos h1, Tr.get_eta]
        simp only [Tr.val, Tr.left, Tr.right]
        by_cases hm : m = 0
        · simp only [hm, if_true]; rw [if_neg (fun e => h0 e.symm)]
        · simp only [hm, if_false]
          by_cases hm1 : m % 2 = 1
          · simp only [hm1, if_true]
            rw [Tr.get_set f _ _ _ _ (by omega)]
            by_cases e : m = n
            · subst e; simp
            · rw [if_neg (by omega), if_neg e]
          · simp only [hm1, if_false]
            rw [if_neg (by omega)]
      · rw [if_neg h1, Tr.get_eta]
        simp only [Tr.val, Tr.left, Tr.right]
        by_cases hm : m = 0
        · simp only [hm, if_true]; rw [if_neg (fun e => h0 e.symm)]
        · simp only [hm, if_false]
          by_cases hm1 : m % 2 = 1
          · simp only [hm1, if_true]
            rw [if_neg (by omega)]
          · simp only [hm1, if_false]
            rw [Tr.get_set f _ _ _ _ (by omega)]
            by_cases e : m = n
            · subst e; simp
            · rw [if_neg (by omega), if_neg e]

theorem VM.get_set {m : VM} {b c : Nat} {x : Option VB} (h : b ≤ 1000000000) : (m.set b x).get c = if c = b then x else m.get c :=
  Tr.get_set 40 m.tr b c x (by omega)
theorem VM.get_new {m : VM} {c : Nat} {x : VB} (h : m.next ≤ 1000000000) : (m.new x).get c = if c = m.next then some x else m.get c :=
  Tr.get_set 40 m.tr m.next c (some x) (by omega)
theorem newE_some {m : VM} {x : VB} {mk : Nat → Value} {v : Value} {m' : VM} (h : newE m x mk = some (v, m')) : m.next ≤ 1000000000 ∧ v = mk m.next ∧ m' = m.new x := by
  unfold newE at h
  cases e : Nat.ble m.next 1000000000 with
  | false => rw [e] at h; cases h
  | true =>
    rw [e] at h
    simp only [Option.some.injEq, Prod.mk.injEq] at h
    exact ⟨Nat.le_of_ble_eq_true e, h.1.symm, h.2.symm⟩

/-- A map's row on both sides. -/
structure ER (fid : Nat → Option FuncId) (r : Rr) (e e' : MapEntry) : Prop where
  key : e'.key = e.key
  val : VR1 fid r e.val e'.val
  born : e'.born = e.born

inductive BR (fid : Nat → Option FuncId) (r : Rr) (k : Rm) : VB → Blk → Prop
  | cells {es : Nat} {vs pre vs' rest : List Value} (he : k.es = es) (hp : pre.length = k.sh) (hv : All2 (VR0 fid r) vs vs') (h0 : es = 0 → pre = [] ∧ rest = [] ∧ k.sz = vs.length) (hz : pre.length + vs'.length + rest.length ≤ k.sz) : BR fid r k (.cells es vs) (.own 0 (pre ++ vs' ++ rest) k.sz)
  | map {es : List MapEntry} {es' : Array MapEntry} {c : Nat} (he : All2 (ER fid r) es es'.toList) : BR fid r k (.map es c) (.obj (.map es' c))

theorem ER.mono {fid : Nat → Option FuncId} {r r' : Rr} (h : r.le r') {e e' : MapEntry} (p : ER fid r e e') : ER fid r' e e' := ⟨p.key, p.val.mono h, p.born⟩
theorem BR.mono {fid : Nat → Option FuncId} {r r' : Rr} (h : r.le r') {k : Rm} {x : VB} {y : Blk} : BR fid r k x y → BR fid r' k x y
  | .cells he hp hv h0 hz => .cells he hp (hv.mono fun _ _ x => x.mono h) h0 hz
  | .map he => .map (he.mono fun _ _ x => x.mono h)

/-- Memory on both sides. -/
structure HR (fid : Nat → Option FuncId) (r : Rr) (m : VM) (h : Heap) : Prop where
  blk : ∀ b x, m.get b = some x → ∃ k y, r b = some k ∧ h k.b = some y ∧ BR fid r k x y
  inj : ∀ b c x y k l, m.get b = some x → m.get c = some y → r b = some k → r c = some l → k.b = l.b → b = c

structure HS (fid : Nat → Option FuncId) (h0 : Heap) (r : Rr) (m : VM) (h : Heap) : Prop extends HR fid r m h where
  old : ∀ b x, h0 b = some x → h b = some x
  own : ∀ b x k, m.get b = some x → r b = some k → h0 k.b = none
  fresh : ∀ b, m.next ≤ b → r b = none
  room : m.next ≤ 1000000001

theorem HR.mono {fid : Nat → Option FuncId} {r r' : Rr} {m : VM} {h : Heap} (p : HR fid r m h) (hl : r.le r') : HR fid r' m h := by
  refine ⟨fun b x hx => ?_, fun b c x y k l hx hy hk hl' e => ?_⟩
  · obtain ⟨k, y, h1, h2, h3⟩ := p.blk b x hx
    exact ⟨k, y, hl _ _ h1, h2, h3.mono hl⟩
  · obtain ⟨k', y', h1, h2, h3⟩ := p.blk b x hx
    obtain ⟨l', y'', h4, h5, h6⟩ := p.blk c y hy
    have e1 := hl _ _ h1; rw [hk] at e1; simp only [Option.some.injEq] at e1; subst e1
    have e2 := hl _ _ h4; rw [hl'] at e2; simp only [Option.some.injEq] at e2; subst e2
    exact p.inj b c x y _ _ hx hy h1 h4 e
end Go.Bb
