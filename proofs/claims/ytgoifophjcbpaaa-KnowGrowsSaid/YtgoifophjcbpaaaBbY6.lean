/- Reckoning: code and calls: what is reckoned is what comes. -/
import Derived.Test.YtgoifophjcbpaaaBbY5
namespace Go.Bb
set_option linter.unusedVariables false
set_option linter.unusedSimpArgs false

/-- A piece of code, and what is reckoned of it. -/
def CodeOk (E : Env) (h0 : Heap) (c : ACode) (f : KA) : Prop := ∀ (N : Nat) (tE : TL) (m : VM) (e : AExit) (tE' : TL) (m' : VM) (r : Rr) (h : Heap) (t : T), f tE m = some (e, tE', m') → HS E.fid h0 r m h → TS E.fid r tE t →
  ∀ Q : AExit → T → Heap → Prop, (∀ t' h' r', r.le r' → HS E.fid h0 r' m' h' → TS E.fid r' tE' t' → Q e t' h') → AW E N c Q t h

section
variable {has : Nat → Bool} {E : Env} {h0 : Heap} {call : CallE} {lf : Nat}

theorem thenE_some {x : Option (AExit × TL × VM)} {b : KA} {y : AExit × TL × VM} (h : thenE x b = some y) :
    (∃ t m, x = some (.normal, t, m) ∧ b t m = some y) ∨ (∃ i t m, x = some (.exit i, t, m) ∧ y = (.exit i, t, m)) ∨ (∃ t m, x = some (.ret, t, m) ∧ y = (.ret, t, m)) := by
  cases x with
  | none => cases h
  | some x =>
    obtain ⟨e, t, m⟩ := x
    cases e with
    | normal => exact .inl ⟨t, m, rfl, h⟩
    | exit i => simp only [thenE, Option.some.injEq] at h; exact .inr (.inl ⟨i, t, m, rfl, h.symm⟩)
    | ret => simp only [thenE, Option.some.injEq] at h; exact .inr (.inr ⟨t, m, rfl, h.symm⟩)

theorem loop_ok {c : ACode} {f : KA} (ih : CodeOk E h0 c f) : CodeOk E h0 (.loop c) (aLoop lf f) := by
  intro N tE m e tE' m' r h t hf p s Q q
  refine aw_loop (fun n t1 h1 => ∃ tE1 m1 r1, r.le r1 ∧ HS E.fid h0 r1 m1 h1 ∧ TS E.fid r1 tE1 t1 ∧ aLoop n f tE1 m1 = some (e, tE', m')) lf ⟨tE, m, r, Rr.le_refl _, p, s, hf⟩ ?_
  rintro n t1 h1 ⟨tE1, m1, r1, hl1, p1, s1, hf1⟩
  cases n with
  | zero => cases hf1
  | succ n =>
    have hf1 : thenE (f tE1 m1) (aLoop n f) = some (e, tE', m') := hf1
    rcases thenE_some hf1 with ⟨t2, m2, g1, g2⟩ | ⟨i, t2, m2, g1, g2⟩ | ⟨t2, m2, g1, g2⟩
    · refine ih N tE1 m1 _ t2 m2 r1 h1 t1 g1 p1 s1 _ fun t' h' r' hl p' s' => ?_
      exact ⟨n, by omega, t2, m2, r', Rr.le_trans hl1 hl, p', s', g2⟩
    · simp only [Prod.mk.injEq] at g2
      obtain ⟨rfl, rfl, rfl⟩ := g2
      exact ih N tE1 m1 _ _ _ r1 h1 t1 g1 p1 s1 _ fun t' h' r' hl p' s' => q t' h' r' (Rr.le_trans hl1 hl) p' s'
    · simp only [Prod.mk.injEq] at g2
      obtain ⟨rfl, rfl, rfl⟩ := g2
      exact ih N tE1 m1 _ _ _ r1 h1 t1 g1 p1 s1 _ fun t' h' r' hl p' s' => q t' h' r' (Rr.le_trans hl1 hl) p' s'

theorem code_ok (hh : Has has E.fid) (hc : CallsOk E h0 call) : ∀ c : ACode, CodeOk E h0 c (evA has call lf c)
  | .skip => by
    intro N tE m e tE' m' r h t hf p s Q q
    have hf : some (AExit.normal, tE, m) = some (e, tE', m') := hf
    simp only [Option.some.injEq, Prod.mk.injEq] at hf
    obtain ⟨rfl, rfl, rfl⟩ := hf
    exact aw_skip (q _ _ r (Rr.le_refl _) p s)
  | .ops os keep => by
    intro N tE m e tE' m' r h t hf p s Q q
    have hf : aOps has call os keep tE m = some (e, tE', m') := hf
    unfold aOps at hf
    split at hf
    · rename_i t2 m2 h2
      simp only [Option.some.injEq, Prod.mk.injEq] at hf
      obtain ⟨rfl, rfl, rfl⟩ := hf
      exact aw_ops (ops_sim hh hc os h2 p s fun t' h' r' hl p' s' => q _ _ r' hl p' (s'.keep keep))
    · cases hf
  | .dops os keep => by
    intro N tE m e tE' m' r h t hf p s Q q
    have hf : aDops has call os keep tE m = some (e, tE', m') := hf
    unfold aDops at hf
    split at hf
    · rename_i t2 m2 h2
      simp only [Option.some.injEq, Prod.mk.injEq] at hf
      obtain ⟨rfl, rfl, rfl⟩ := hf
      exact aw_dops (dops_sim hh hc os h2 p p.toHR .nil s fun t' h' r' hl p' s' => q _ _ r' hl p' (s'.keep keep))
    · cases hf
  | .seq a b => by
    intro N tE m e tE' m' r h t hf p s Q q
    have hf : thenE (evA has call lf a tE m) (evA has call lf b) = some (e, tE', m') := hf
    refine aw_seq ?_
    rcases thenE_some hf with ⟨t2, m2, g1, g2⟩ | ⟨i, t2, m2, g1, g2⟩ | ⟨t2, m2, g1, g2⟩
    · refine code_ok hh hc a N tE m _ t2 m2 r h t g1 p s _ fun t' h' r' hl p' s' => ?_
      exact code_ok hh hc b N t2 m2 e tE' m' r' h' t' g2 p' s' Q fun t3 h3 r3 hl3 p3 s3 => q t3 h3 r3 (Rr.le_trans hl hl3) p3 s3
    · simp only [Prod.mk.injEq] at g2
      obtain ⟨rfl, rfl, rfl⟩ := g2
      exact code_ok hh hc a N tE m _ _ _ r h t g1 p s _ q
    · simp only [Prod.mk.injEq] at g2
      obtain ⟨rfl, rfl, rfl⟩ := g2
      exact code_ok hh hc a N tE m _ _ _ r h t g1 p s _ q
  | .cond c a b => by
    intro N tE m e tE' m' r h t hf p s Q q
    have hf : aCond has c (evA has call lf a) (evA has call lf b) tE m = some (e, tE', m') := hf
    unfold aCond at hf
    split at hf
    · rename_i hb
      exact aw_cond ((s.sim hh).bool hb) (fun _ => code_ok hh hc a N tE m _ _ _ r h t hf p s _ q) (fun hx => by cases hx)
    · rename_i hb
      exact aw_cond ((s.sim hh).bool hb) (fun hx => by cases hx) (fun _ => code_ok hh hc b N tE m _ _ _ r h t hf p s _ q)
    · cases hf
  | .block id c => by
    intro N tE m e tE' m' r h t hf p s Q q
    have hf : leaveE id (evA has call lf c tE m) = some (e, tE', m') := hf
    refine aw_block ?_
    cases hx : evA has call lf c tE m with
    | none => rw [hx] at hf; cases hf
    | some y =>
      obtain ⟨e1, t1, m1⟩ := y
      rw [hx] at hf
      cases e1 with
      | normal =>
        simp only [leaveE, Option.some.injEq, Prod.mk.injEq] at hf
        obtain ⟨rfl, rfl, rfl⟩ := hf
        exact code_ok hh hc c N tE m _ _ _ r h t hx p s _ q
      | ret =>
        simp only [leaveE, Option.some.injEq, Prod.mk.injEq] at hf
        obtain ⟨rfl, rfl, rfl⟩ := hf
        exact code_ok hh hc c N tE m _ _ _ r h t hx p s _ q
      | exit i =>
        simp only [leaveE] at hf
        cases hi : Nat.beq i id with
        | true =>
          rw [hi] at hf; simp only [cond_true, Option.some.injEq, Prod.mk.injEq] at hf
          obtain ⟨rfl, rfl, rfl⟩ := hf
          refine code_ok hh hc c N tE m _ _ _ r h t hx p s _ fun t' h' r' hl p' s' => ?_
          simp only [qBlock]
          rw [if_pos (Nat.eq_of_beq_eq_true hi)]
          exact q t' h' r' hl p' s'
        | false =>
          rw [hi] at hf; simp only [cond_false, Option.some.injEq, Prod.mk.injEq] at hf
          obtain ⟨rfl, rfl, rfl⟩ := hf
          refine code_ok hh hc c N tE m _ _ _ r h t hx p s _ fun t' h' r' hl p' s' => ?_
          simp only [qBlock]
          rw [if_neg (fun hh => by rw [hh, Nat.beq_refl] at hi; cases hi)]
          exact q t' h' r' hl p' s'
  | .loop c => loop_ok (code_ok hh hc c)
  | .scope c => by
    intro N tE m e tE' m' r h t hf p s Q q
    exact aw_scope (code_ok hh hc c N tE m e tE' m' r h t hf p s Q q)
  | .exit id => by
    intro N tE m e tE' m' r h t hf p s Q q
    have hf : some (AExit.exit id, tE, m) = some (e, tE', m') := hf
    simp only [Option.some.injEq, Prod.mk.injEq] at hf
    obtain ⟨rfl, rfl, rfl⟩ := hf
    exact aw_exit (q _ _ r (Rr.le_refl _) p s)
  | .ret => by
    intro N tE m e tE' m' r h t hf p s Q q
    have hf : some (AExit.ret, tE, m) = some (e, tE', m') := hf
    simp only [Option.some.injEq, Prod.mk.injEq] at hf
    obtain ⟨rfl, rfl, rfl⟩ := hf
    exact aw_ret (q _ _ r (Rr.le_refl _) p s)
  | .bad => by
    intro N tE m e tE' m' r h t hf p s Q q
    cases hf

/-! ### results -/
theorem ret_sim {fid : Nat → Option FuncId} {r : Rr} {m : VM} {h : Heap} {tE : TL} {t : T} (p : HR fid r m h) (s : TS fid r tE t) : ∀ {rs : List ARes} {vs : List Value}, retE rs tE m = some vs → ∃ vs', retL rs t h = some vs' ∧ All2 (VR1 fid r) vs vs'
  | [], vs, e => by simp only [retE, Option.some.injEq] at e; subst e; exact ⟨[], rfl, .nil⟩
  | .tmp i :: rs, vs, e => by
    simp only [retE] at e
    split at e
    · rename_i v us hv hus
      cases hn : noTup v with
      | false => rw [hn] at e; cases e
      | true =>
        rw [hn] at e; simp only [cond_true, Option.some.injEq] at e; subst e
        obtain ⟨v', h1, h2⟩ := s i v hv
        obtain ⟨us', h3, h4⟩ := ret_sim p s hus
        exact ⟨v' :: us', by simp only [retL, h1, h3], .cons (h2.one' hn) h4⟩
    · cases e
  | .cell i k :: rs, vs, e => by
    simp only [retE] at e
    split at e
    · rename_i a us hv hus
      rw [Option.map_eq_some_iff] at e
      obtain ⟨u, hu, rfl⟩ := e
      obtain ⟨v', h1, h2⟩ := s i _ hv
      obtain ⟨kk, _, hk, rfl⟩ := h2.of_ptr
      obtain ⟨us', h3, h4⟩ := ret_sim p s hus
      obtain ⟨u', h5, h6⟩ := read_sim p hk hu
      refine ⟨u' :: us', ?_, .cons h6 h4⟩
      simp only [retL, h1, h3]
      rw [show (⟨kk.b, a.off + kk.sh, none⟩ : Addr) = kk.at a from rfl, h5, Option.map_some]
    · cases e
theorem retV_sim {fid : Nat → Option FuncId} {r : Rr} {vs vs' : List Value} (h : All2 (VR1 fid r) vs vs') : VR fid r (retV vs) (retV vs') := by
  cases h with
  | nil => exact .tup .nil
  | cons x t =>
    cases t with
    | nil => exact .one x
    | cons y t => exact .tup (by simpa using All2.cons x (All2.cons y t))

theorem args_sim {fid : Nat → Option FuncId} {r : Rr} : ∀ {args args' : List Value} (n : Nat), All2 (VR fid r) args args' → TS fid r (argsT n args) (tl (argsT n args'))
  | _, _, n, .nil => by intro i v h; cases h
  | _, _, n, .cons x t => by
    intro i v h
    simp only [argsT] at h ⊢
    rw [TL.get_cons] at h
    simp only [tl]
    by_cases e : i = n
    · simp only [e, if_true, Option.some.injEq] at h ⊢; subst h; exact ⟨_, rfl, x⟩
    · simp only [e, if_false] at h ⊢; exact args_sim (n + 1) t i v h
end

section
variable {tab : Nat → Option (Hint × AFunc)} {E : EnvT tab} {h0 : Heap} {call : CallE} {lf : Nat}

theorem body_ok (hh : Has (fun k => (tab k).isSome) E.fid) (hc : CallsOk E.toEnv h0 call) (n : Nat) : CallOk E.toEnv h0 n (bodyE (fun k => (tab k).isSome) call lf (tab n)) := by
  intro args m v m' r h args' p ha e
  cases ht : tab n with
  | none => rw [ht] at e; cases e
  | some hf =>
    obtain ⟨H, af⟩ := hf
    rw [ht] at e
    simp only [bodyE] at e
    cases hb : Nat.ble args.length af.nt with
    | false => rw [hb] at e; cases e
    | true =>
      rw [hb] at e; simp only [cond_true] at e
      have hb := Nat.le_of_ble_eq_true hb
      have hlen := ha.length
      refine acall_body ht (by simpa [← hlen] using hb) ?_
      unfold backE at e
      split at e
      · cases e
      · rename_i ex t2 m2 hx
        split at e
        · cases e
        · rename_i hex
          split at e
          · rename_i vs hvs
            simp only [Option.some.injEq, Prod.mk.injEq] at e
            obtain ⟨rfl, rfl⟩ := e
            refine code_ok hh hc af.body af.nt (argsT 0 args) m ex t2 m2 r h _ hx p (args_sim 0 ha) _ fun t' h' r' hl p' s' => ?_
            obtain ⟨vs', g1, g2⟩ := ret_sim p'.toHR s' hvs
            cases ex with
            | exit i => exact absurd rfl (hex i)
            | normal => simp only [qRet, g1]; exact ⟨r', hl, p', retV_sim g2⟩
            | ret => simp only [qRet, g1]; exact ⟨r', hl, p', retV_sim g2⟩
          · cases e

def HooksOk (E : Env) (hk : Hooks) : Prop := ∀ h0 n f, hk n = some f → CallOk E h0 n f

theorem evF_ok (hh : Has (fun k => (tab k).isSome) E.fid) {hk : Hooks} (hko : HooksOk E.toEnv hk) : ∀ d, CallsOk E.toEnv h0 (evF tab hk lf d)
  | 0 => fun n args m v m' r h args' p ha e => by cases e
  | d + 1 => by
    intro n
    have : evF tab hk lf (d + 1) n = hookE (hk n) (bodyE (fun k => (tab k).isSome) (evF tab hk lf d) lf (tab n)) := rfl
    rw [this]
    cases hkn : hk n with
    | none => exact body_ok hh (evF_ok hh hko d) n
    | some f => exact hko h0 n f hkn
theorem noHooks_ok : HooksOk E.toEnv noHooks := fun _ _ _ h => by cases h

theorem start_hs (h : Heap) (fid : Nat → Option FuncId) : HS fid h (fun _ => none) VM.start h := by
  have g : ∀ b, VM.start.get b = none := fun b => rfl
  exact { blk := fun b x hx => (by rw [g] at hx; cases hx), inj := fun b c x y k l hx => (by rw [g] at hx; cases hx), old := fun _ _ q => q, own := fun b x k hx => (by rw [g] at hx; cases hx), fresh := fun _ _ => rfl, room := by decide }

/-- What reckoning says of a closed call holds. -/
theorem evF_true {hk : Hooks} (hko : HooksOk E.toEnv hk) {d n : Nat} (h : Heap) (e : isTrue (evF tab hk lf d n [] VM.start) = true) : ACallN E.toEnv n [] h fun v h' => v = .bool true ∧ h.le h' := by
  cases hx : evF tab hk lf d n [] VM.start with
  | none => rw [hx] at e; cases e
  | some y =>
    obtain ⟨v, m⟩ := y
    rw [hx] at e
    have hv : v = .bool true := by
      unfold isTrue at e
      split at e
      · rename_i h1; simp only [Option.some.injEq, Prod.mk.injEq] at h1; exact h1.1
      · cases e
    subst hv
    refine (evF_ok (h0 := h) (lf := lf) E.full hko d n [] VM.start _ m _ h [] (start_hs h _) .nil hx).mono ?_
    rintro v' h' ⟨r', _, p', hv'⟩
    exact ⟨hv'.of_bool, p'.old⟩
end
end Go.Bb
