/- Reckoning: values that are built, carries. -/
import Derived.Test.YtgoifophjcbpaaaBbXu
namespace Go.Bb
set_option linter.unusedVariables false
set_option linter.unusedSimpArgs false

section
variable {fid : Nat → Option FuncId} {r : Rr} {m : VM} {h : Heap} {ρ ρ' : Opd → Option Value} {v : Value}

theorem prim_sim {p : Prim} {vs vs' : List Value} (hv : All2 (VR fid r) vs vs') (e : primV p vs = some v) : primV p vs' = some v ∧ VR fid r v v := by
  unfold primV at e
  split at e
  · cases hv with | cons h1 t => cases t with | cons h2 t => cases t with | cons h3 t => cases t with | nil =>
      rw [h1.of_int, h2.of_int, h3.of_int]
      refine ⟨e, ?_⟩
      split at e
      · simp only [Option.some.injEq] at e; subst e
        exact .tup (.cons (.one (.base (.plain rfl))) (.cons (.one (.base (.plain rfl))) .nil))
      · cases e
  · cases hv with | cons h1 t => cases t with | cons h2 t => cases t with | cons h3 t => cases t with | nil =>
      rw [h1.of_int, h2.of_int, h3.of_int]
      refine ⟨e, ?_⟩
      split at e
      · simp only [Option.some.injEq] at e; subst e
        exact .tup (.cons (.one (.base (.plain rfl))) (.cons (.one (.base (.plain rfl))) .nil))
      · cases e
  · cases e
theorem rest_prim (s : Sim fid r ρ ρ') {p : Prim} {xs : List Opd} (e : oRest (.prim p xs) ρ m = some v) : ∃ v', pureV fid ρ' h (.prim p xs) = some v' ∧ VR fid r v v' := by
  simp only [oRest, pureV] at e
  split at e
  · rename_i vs hvs
    obtain ⟨vs', g1, g2⟩ := s.allV hvs
    obtain ⟨q1, q2⟩ := prim_sim g2 e
    exact ⟨v, by simp only [pureV, g1, q1], q2⟩
  · cases e

/-- Parts on both sides. -/
inductive PR (fid : Nat → Option FuncId) (r : Rr) : Nat × Nat × Value → Nat × Nat × Value → Prop
  | mk {a b : Nat} {v v' : Value} (h : VR fid r v v') : PR fid r (a, b, v) (a, b, v')
theorem Sim.allP (s : Sim fid r ρ ρ') : ∀ {xs : List (Nat × Nat × Opd)} {vs : List (Nat × Nat × Value)}, allP ρ xs = some vs → ∃ vs', allP ρ' xs = some vs' ∧ All2 (PR fid r) vs vs'
  | [], vs, e => by simp only [Go.Bb.allP, Option.some.injEq] at e; subst e; exact ⟨[], rfl, .nil⟩
  | (a, b, x) :: xs, vs, e => by
    simp only [Go.Bb.allP] at e
    split at e
    · rename_i v vs hv hvs
      simp only [Option.some.injEq] at e; subst e
      obtain ⟨v', h1, h2⟩ := s x _ hv
      obtain ⟨vs', h3, h4⟩ := s.allP hvs
      exact ⟨(a, b, v') :: vs', by simp only [Go.Bb.allP, h1, h3], .cons (.mk h2) h4⟩
    · cases e

/-- Cells that may be: each one is one cell, or (a tuple) not looked at. -/
theorem cells_rel {v v' : Value} (p : VR1 fid r v v') : All2 (VR0 fid r) v.cells.toList v'.cells.toList := by
  cases p with
  | one p => cases p with
    | base p => cases p with
      | plain p => cases v <;> first | (cases p; done) | exact .cons (.base (.plain p)) .nil
      | ptr hs hk => exact .cons (.base (.ptr hs hk)) .nil
      | slice hs hk hn h0 h1 => exact .cons (.base (.slice hs hk hn h0 h1)) .nil
      | map hk => exact .cons (.base (.map hk)) .nil
    | func hg ha hc => exact .cons (.func hg ha hc) .nil
  | agg p => exact p

theorem VR.one' {v v' : Value} (p : VR fid r v v') (c : noTup v = true) : VR1 fid r v v' := by
  cases p with
  | one p => exact p
  | tup p => cases c
theorem fillL_sim : ∀ {ps ps' : List (Nat × Nat × Value)} {l l' q : List Value}, All2 (PR fid r) ps ps' → ps.all (fun p => noTup p.2.2) = true → All2 (VR0 fid r) l l' → fillL l ps = some q → ∃ q', fillL l' ps' = some q' ∧ All2 (VR0 fid r) q q'
  | [], _, l, l', q, .nil, _, hl, e => by simp only [fillL, Option.some.injEq] at e; subst e; exact ⟨l', rfl, hl⟩
  | _ :: ps, _, l, l', q, .cons (.mk (a := off) (b := size) (v := v) (v' := v') hv) ht, c, hl, e => by
    simp only [List.all_cons, Bool.and_eq_true] at c
    have hc := cells_rel (hv.one' c.1)
    have hlen := hc.length
    have hll := hl.length
    simp only [fillL] at e ⊢
    split at e
    · rename_i hcond
      rw [if_pos ⟨by rw [← hcond.1, ← Array.length_toList, ← Array.length_toList, hlen], by omega⟩]
      exact fillL_sim ht c.2 (((hl.take off).append hc).append (hl.drop _)) e
    · cases e
theorem oBuild_sim (s : Sim fid r ρ ρ') {z : List Value} {ps : List (Nat × Nat × Opd)} (e : oBuild z ps ρ m = some v) : ∃ v', pureV fid ρ' h (.build z ps) = some v' ∧ VR fid r v v' := by
  unfold oBuild at e
  cases hz : z.all plain with
  | false => rw [hz] at e; cases e
  | true =>
    rw [hz] at e; simp only [cond_true] at e
    split at e
    · rename_i q hq
      obtain ⟨q', g1, g2⟩ := s.allP hq
      split at e
      · rename_i l hl
        simp only [Option.some.injEq] at e; subst e
        cases hc : q.all (fun p => noTup p.2.2) with
        | false => rw [hc] at hl; cases hl
        | true =>
          rw [hc] at hl; simp only [cond_true] at hl
          obtain ⟨l', w1, w2⟩ := fillL_sim g2 hc (plain_refl hz) hl
          exact ⟨.agg l'.toArray, by simp only [pureV, g1, w1, Option.map_some], .one (.agg (by simpa using w2))⟩
      · cases e
    · cases e
end
end Go.Bb
