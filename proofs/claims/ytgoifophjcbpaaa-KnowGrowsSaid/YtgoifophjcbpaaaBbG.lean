/- What an operation tells that changes nothing: the model tells it too. -/
import Derived.Test.YtgoifophjcbpaaaBbF
namespace Go.Bb
set_option linter.unusedSimpArgs false
set_option linter.unusedVariables false

section
variable {P : Program} {ψ : FuncId → Option Nat} {fid : Nat → Option FuncId} {ρ : Opd → Option Value} {ev : Operand → Value} {h : Heap} {w : World}

/-- The model's operation tells v and changes nothing. -/
def Tells (P : Program) (ev : Operand → Value) (w : World) (o : Oper) (v : Value) : Prop := (execOp ev o).run P w = .ok (.value v) w

theorem tells_of {s : Sem Value} {v : Value} (h : s.run P w = .ok v w) : (do pure (Next.value (← s)) : Sem Next).run P w = .ok (.value v) w := by
  simp [h]

/-- What the kind of a comparison asks of the type. -/
def EqT (P : Program) (t : TypeId) : EqK → Prop
  | .bool => P.underlying t = some .bool
  | .ptr => ∃ e, P.underlying t = some (.pointer e) ∧ ∃ n, sizeT P e = some n
  | .slice => ∃ e, P.underlying t = some (.slice e)
  | .map => ∃ k e, P.underlying t = some (.map k e)
  | .func => ∃ a b c, P.underlying t = some (.func a b c)

theorem eqv_sound {k : EqK} {ne : Bool} {t : TypeId} {x y : Operand} {a b : Value} {q : Bool} (hq : eqV k a b = some q)
    (ht : EqT P t k) :
    (eqGuard (if ne then .neq else .eql) t x y a b >>= fun _ => binOp (if ne then .neq else .eql) t a b).run P w = .ok (.bool (if ne = true then !q else q)) w := by
  have key : (Op.equalIn 10000 t a b).run P w = .ok q w ∧ (∀ op : BinOp, (eqGuard op t x y a b).run P w = .ok () w) ∧ (binOp .eql t a b = (do pure (.bool (← Op.equal t a b)))) ∧ (binOp .neq t a b = (do pure (.bool (!(← Op.equal t a b))))) := by
    unfold eqV at hq
    split at hq <;> (try (cases hq; done)) <;> (simp only [Option.some.injEq] at hq; subst hq)
    · exact ⟨run_equalIn_bool' (P := P) w 9999 t _ _ ht, fun op => by unfold eqGuard; cases op <;> simp, rfl, rfl⟩
    · obtain ⟨e, he, _⟩ := ht
      refine ⟨?_, fun op => by unfold eqGuard; cases op <;> simp, rfl, rfl⟩
      rw [show (10000 : Nat) = 9999 + 1 from rfl, Op.equalIn]
      simp only [Sem.run_bind, run_underlying he, Result.andThen_ok]
      rfl
    · obtain ⟨e, he, n, hn⟩ := ht
      refine ⟨?_, fun op => by unfold eqGuard; cases op <;> simp, rfl, rfl⟩
      rw [show (10000 : Nat) = 9999 + 1 from rfl, Op.equalIn]
      simp only [Sem.run_bind, run_underlying he, Result.andThen_ok]
      rfl
    · obtain ⟨e, he⟩ := ht
      refine ⟨?_, fun op => by unfold eqGuard; cases op <;> simp, rfl, rfl⟩
      rw [show (10000 : Nat) = 9999 + 1 from rfl, Op.equalIn]
      simp only [Sem.run_bind, run_underlying he, Result.andThen_ok]
      rfl
    · obtain ⟨e, he⟩ := ht
      refine ⟨?_, fun op => by unfold eqGuard; cases op <;> simp, rfl, rfl⟩
      rw [show (10000 : Nat) = 9999 + 1 from rfl, Op.equalIn]
      simp only [Sem.run_bind, run_underlying he, Result.andThen_ok]
      rfl
    · obtain ⟨k, e, he⟩ := ht
      refine ⟨?_, fun op => by unfold eqGuard; cases op <;> simp, rfl, rfl⟩
      rw [show (10000 : Nat) = 9999 + 1 from rfl, Op.equalIn]
      simp only [Sem.run_bind, run_underlying he, Result.andThen_ok]
      rfl
    · obtain ⟨k, e, he⟩ := ht
      refine ⟨?_, fun op => by unfold eqGuard; cases op <;> simp, rfl, rfl⟩
      rw [show (10000 : Nat) = 9999 + 1 from rfl, Op.equalIn]
      simp only [Sem.run_bind, run_underlying he, Result.andThen_ok]
      rfl
    all_goals
      obtain ⟨_, _, _, he⟩ := ht
      refine ⟨?_, fun op => by unfold eqGuard; cases op <;> simp, rfl, rfl⟩
      rw [show (10000 : Nat) = 9999 + 1 from rfl, Op.equalIn]
      simp only [Sem.run_bind, run_underlying he, Result.andThen_ok]
      rfl
  obtain ⟨h1, h2, h3, h4⟩ := key
  cases ne
  · simp only [Bool.false_eq_true, if_false, Sem.run_bind, h2, Result.andThen_ok, h3, Op.equal, Op.maxDepth, h1, Sem.run_pure]
  · simp only [if_true, Sem.run_bind, h2, Result.andThen_ok, h4, Op.equal, Op.maxDepth, h1, Sem.run_pure]

theorem eqa_sound {ks : List (Option IntKind)} {ne : Bool} {t : TypeId} {x y : Operand} {a b : Array Value} (hg : P.eqGuardType P.depth t = false) (hl : leavesT P 6 t = some ks) (ha : aggT P t = some true)
    (h1 : leavesOk ks a.toList = true) (h2 : leavesOk ks b.toList = true) :
    (eqGuard (if ne then .neq else .eql) t x y (.agg a) (.agg b) >>= fun _ => binOp (if ne then .neq else .eql) t (.agg a) (.agg b)).run P w = .ok (.bool (if ne = true then !(leavesEq a.toList b.toList) else leavesEq a.toList b.toList)) w := by
  have he := (eqOk 6 t ks hl 10000 (by omega) w).1 ha a b h1 h2
  have hgd : ∀ op : BinOp, (eqGuard op t x y (.agg a) (.agg b)).run P w = .ok () w := fun op => run_eqGuard_agg w op t x y a b hg
  cases ne
  · simp only [Bool.false_eq_true, if_false, Sem.run_bind, hgd, Result.andThen_ok, run_eql_struct, he]
  · simp only [if_true, Sem.run_bind, hgd, Result.andThen_ok, run_neq_struct, he]

theorem eqOp_sound {ne : Bool} {t : TypeId} {x y : Operand} {x' y' : Opd} {ao : AOp} (hc : eqOp P ne t x' y' = some ao) (hx : ∀ v, ρ x' = some v → ev x = v) (hy : ∀ v, ρ y' = some v → ev y = v) {v : Value}
    (hv : pureV fid ρ h ao = some v) : (eqGuard (if ne then .neq else .eql) t x y (ev x) (ev y) >>= fun _ => binOp (if ne then .neq else .eql) t (ev x) (ev y)).run P w = .ok v w := by
  unfold eqOp at hc
  have bin : ∀ op, (op = if ne then BinOp.neq else .eql) → ao = .bin op x' y' → ((∃ k, P.underlying t = some (.int k)) ∨ P.underlying t = some .string) →
      (eqGuard (if ne then .neq else .eql) t x y (ev x) (ev y) >>= fun _ => binOp (if ne then .neq else .eql) t (ev x) (ev y)).run P w = .ok v w := by
    intro op hop hao hty
    subst hao
    simp only [pureV] at hv
    split at hv
    · rename_i a b ha hb
      rw [hx _ ha, hy _ hb]
      have hg : ∀ op : BinOp, (eqGuard op t x y a b).run P w = .ok () w := by
        intro op'
        unfold eqGuard
        unfold binV at hv
        split at hv <;> first | (cases op' <;> simp; done) | (simp_all; done) | (subst hop; cases ne <;> simp_all)
      simp only [Sem.run_bind, hg, Result.andThen_ok]
      subst hop
      cases ne
      · simp only [Bool.false_eq_true, if_false] at hv ⊢
        unfold binV at hv
        split at hv <;> simp_all [binOp, Op.intCmp, Op.stringOp]
        all_goals (try (obtain ⟨rfl, rfl⟩ := hv; simp [Op.intCmp]))
      · simp only [if_true] at hv ⊢
        unfold binV at hv
        split at hv <;> simp_all [binOp, Op.intCmp, Op.stringOp]
        all_goals (try (obtain ⟨rfl, rfl⟩ := hv; simp [Op.intCmp]))
    · cases hv
  have eqv : ∀ k, ao = .eqv k ne x' y' → EqT P t k →
      (eqGuard (if ne then .neq else .eql) t x y (ev x) (ev y) >>= fun _ => binOp (if ne then .neq else .eql) t (ev x) (ev y)).run P w = .ok v w := by
    intro k hao hty
    subst hao
    simp only [pureV] at hv
    split at hv
    · rename_i a b ha hb
      rw [hx _ ha, hy _ hb]
      simp only [Option.map_eq_some_iff] at hv
      obtain ⟨q, hq, rfl⟩ := hv
      exact eqv_sound hq hty
    · cases hv
  cases e : P.underlying t with
  | none => simp [e] at hc
  | some ty =>
    simp only [e] at hc
    cases ty <;> simp only at hc <;> try (cases hc; done)
    case bool => simp only [Option.some.injEq] at hc; exact eqv .bool hc.symm e
    case int k => simp only [Option.some.injEq] at hc; exact bin _ rfl hc.symm (.inl ⟨k, e⟩)
    case string => simp only [Option.some.injEq] at hc; exact bin _ rfl hc.symm (.inr e)
    case pointer el =>
      split at hc
      · rename_i n hn
        simp only [Option.some.injEq] at hc; exact eqv .ptr hc.symm ⟨el, e, n, hn⟩
      · cases hc
    case slice el => simp only [Option.some.injEq] at hc; exact eqv .slice hc.symm ⟨el, e⟩
    case map k el => simp only [Option.some.injEq] at hc; exact eqv .map hc.symm ⟨k, el, e⟩
    case func a b c => simp only [Option.some.injEq] at hc; exact eqv .func hc.symm ⟨a, b, c, e⟩
    all_goals
      split at hc
      · cases hc
      · rename_i hg
        simp only [Option.map_eq_some_iff] at hc
        obtain ⟨ks, hl, rfl⟩ := hc
        simp only [pureV] at hv
        split at hv
        · rename_i a b ha hb
          rw [hx _ ha, hy _ hb]
          split at hv
          · rename_i hlv
            simp only [Bool.and_eq_true] at hlv
            simp only [Option.some.injEq] at hv
            subst hv
            exact eqa_sound (by simpa using hg) hl (by simp [aggT, e]) hlv.1 hlv.2
          · cases hv
        · cases hv

end
end Go.Bb
