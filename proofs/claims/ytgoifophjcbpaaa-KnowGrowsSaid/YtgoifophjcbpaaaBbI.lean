/- Operations that make one block. -/
import Derived.Test.YtgoifophjcbpaaaBbH
namespace Go.Bb
set_option linter.unusedSimpArgs false
set_option linter.unusedVariables false

section
variable {P : Program} {ψ : FuncId → Option Nat} {fid : Nat → Option FuncId} {ρ : Opd → Option Value} {ev : Operand → Value} {h : Heap} {w : World}

theorem range_rep (z : List Value) (hz : 0 < z.length) : ∀ c : Nat, ((Array.range (c * z.length)).map fun i => z.toArray[i % z.toArray.size]!).toList = List.flatten (List.replicate c z) := by
  intro c
  simp only [Array.toList_map, Array.toList_range, List.size_toArray]
  induction c with
  | zero => simp
  | succ c ih =>
    rw [Nat.succ_mul, List.range_add, List.map_append, ih, List.replicate_succ', List.flatten_append]
    congr 1
    simp only [List.map_map, List.flatten_cons, List.flatten_nil, List.append_nil]
    apply List.ext_getElem?
    intro i
    simp only [List.getElem?_map]
    by_cases hi : i < z.length
    · rw [List.getElem?_range hi]
      simp only [Option.map_some, Function.comp_apply]
      rw [Nat.mul_comm, Nat.mul_add_mod, Nat.mod_eq_of_lt hi]
      simp [hi]
    · rw [List.getElem?_eq_none (by simpa using hi), List.getElem?_eq_none (by omega)]; rfl

theorem zero_of {t : TypeId} {z : List Value} (hz : zeroT P t = some z) : ∃ zz : Value, (∀ w : World, (zeroValue t).run P w = .ok zz w) ∧ zz.cells = z.toArray := by
  unfold zeroT at hz
  simp only [Option.map_eq_some_iff, Option.bind_eq_some_iff] at hz
  obtain ⟨zz, ⟨i, hi, hzi⟩, rfl⟩ := hz
  exact ⟨zz, fun w => by simp [zeroValue, run_typeInfo' hi, hzi], by simp⟩

theorem blkSat_own' (vs : List Value) (n : Nat) (hn : n = vs.length) (e : TypeId) : BlkSat (.own 0 vs n) (some (.cells vs.toArray e (0, 0))) := by
  subst hn; exact blkSat_own vs e

theorem alloc_sound (ha : Agree ψ ρ ev) {o : Oper} {ao : AOp} {blk : Blk} {mk : Nat → Value} (hc : compOp P ψ o.op = some ao) (hv : allocV ρ ao = some (blk, mk)) :
    ∃ obj, (execOp ev o).run P w = .ok (.value (mk w.heap.size)) { w with heap := w.heap.push obj } ∧ BlkSat blk (some obj) := by
  have tells : ∀ {s : Sem Value} {v : Value} {w' : World}, s.run P w = .ok v w' → (do pure (Next.value (← s)) : Sem Next).run P w = .ok (.value v) w' := by
    intro s v w' h; simp [h]
  unfold compOp at hc
  unfold execOp
  cases hop : o.op <;> rw [hop] at hc <;> simp only at hc ⊢
  case alloc t =>
    simp only [Option.map_eq_some_iff] at hc
    obtain ⟨z, hz, rfl⟩ := hc
    simp only [allocV, Option.some.injEq, Prod.mk.injEq] at hv
    obtain ⟨rfl, rfl⟩ := hv
    obtain ⟨zz, hzz, hcells⟩ := zero_of hz
    refine ⟨.cells z.toArray t, tells ?_, blkSat_own z t⟩
    simp only [Instr.alloc, Sem.run_bind, hzz, Result.andThen_ok, newVar, newRow, run_newObj, Sem.run_pure, hcells]
  case box t x =>
    simp only [Option.map_eq_some_iff] at hc
    obtain ⟨y, hy, rfl⟩ := hc
    simp only [allocV] at hv
    split at hv
    · rename_i v hxv
      simp only [Option.some.injEq, Prod.mk.injEq] at hv
      obtain ⟨rfl, rfl⟩ := hv
      refine ⟨.cells v.cells t, tells ?_, ?_⟩
      · rw [ha x y v hy hxv]
        simp only [Instr.box, Sem.run_bind, Result.andThen_ok, newVar, newRow, run_newObj, Sem.run_pure]
      · have := blkSat_own' v.cells.toList v.cells.size (by simp) t
        simpa using this
    · cases hv
  case buildSlice t n parts =>
    split at hc
    · rename_i e h1
      split at hc
      · rename_i i z hi hz
        split at hc
        · rename_i hcond
          simp only [Bool.and_eq_true, beq_iff_eq, decide_eq_true_eq] at hcond
          obtain ⟨⟨hsz, hpos⟩, hbig⟩ := hcond
          simp only [Option.map_eq_some_iff] at hc
          obtain ⟨ps, hps, rfl⟩ := hc
          simp only [allocV] at hv
          split at hv
          · rename_i vs hvs
            split at hv
            · rename_i l hl
              simp only [Option.some.injEq, Prod.mk.injEq] at hv
              obtain ⟨rfl, rfl⟩ := hv
              obtain ⟨zz, hzz, hcells⟩ := zero_of hz
              have hS : sizeT P e = some i.size := by simp [sizeT, hi]
              refine ⟨.cells l.toArray e, tells ?_, blkSat_own l e⟩
              have hparts : (parts.map fun (i, x) => (i, ev x)).toList = parts.toList.map fun (i, x) => (i, ev x) := by simp
              have hfill := conParts_ev ha hps hvs hl
              have hle : ¬ (n * i.size > 2 ^ 24) := by omega
              by_cases hz0 : n * i.size = 0
              · have hn0 : n = 0 := by
                  rcases Nat.mul_eq_zero.1 hz0 with h | h
                  · exact h
                  · omega
                subst hn0
                simp only [List.replicate_zero, List.flatten_nil] at hfill
                simp only [Instr.buildSlice, Sem.run_bind, run_underlying h1, Result.andThen_ok, run_sizeOf' hS, Sem.run_ite, hle, if_false, hz0, if_true, Sem.run_pure, hparts, hz0]
                have hr0 : (Array.map (fun (x : Nat) => (#[] : Array Value)[x % (#[] : Array Value).size]!) (Array.range 0)) = ([] : List Value).toArray := by simp
                rw [hr0, hfill]
                simp [newRow, run_newObj]
              · simp only [Instr.buildSlice, Sem.run_bind, run_underlying h1, Result.andThen_ok, run_sizeOf' hS, Sem.run_ite, hle, if_false, hz0, Sem.run_pure, hzz, hparts, hcells]
                have hr0 : (Array.map (fun (x : Nat) => z.toArray[x % z.toArray.size]!) (Array.range (n * i.size))) = (List.flatten (List.replicate n z)).toArray := by
                  apply Array.ext'
                  rw [hsz, range_rep z (by omega) n]
                rw [hr0, hfill]
                simp [newRow, run_newObj]
            · cases hv
          · cases hv
        · cases hc
      · cases hc
    · cases hc
  case makeSlice t l c =>
    split at hc
    · rename_i l' c' e hl hcc h1
      split at hc
      · rename_i i z hi hz
        split at hc
        · rename_i hcond
          simp only [Bool.and_eq_true, beq_iff_eq, decide_eq_true_eq] at hcond
          obtain ⟨hsz, hpos⟩ := hcond
          simp only [Option.some.injEq] at hc; subst hc
          simp only [allocV] at hv
          split at hv
          · rename_i kl lv kc cv hlv hcv
            split at hv
            · rename_i hb
              obtain ⟨b1, b2, b3, b4⟩ := hb
              simp only [Option.some.injEq, Prod.mk.injEq] at hv
              obtain ⟨rfl, rfl⟩ := hv
              obtain ⟨zz, hzz, hcells⟩ := zero_of hz
              have hS : sizeT P e = some i.size := by simp [sizeT, hi]
              refine ⟨.cells (List.flatten (List.replicate cv.toNat z)).toArray e, tells ?_, blkSat_own' _ _ (by simp) e⟩
              have wl : IntKind.i64.wrap lv = lv := by simp [IntKind.wrap, IntKind.bits, IntKind.signed]; omega
              have wc : IntKind.i64.wrap cv = cv := by simp [IntKind.wrap, IntKind.bits, IntKind.signed]; omega
              rw [ha l l' _ hl hlv, ha c c' _ hcc hcv]
              have t1 : (decide (cv < 0) || decide ((i.bytes : Int) * cv > 2 ^ 48)) = false := by
                simp only [Bool.or_eq_false_iff, decide_eq_false_iff_not]
                constructor
                · omega
                · have : (2 : Int) ^ 48 = 281474976710656 := by decide
                  omega
              have t2 : decide (lv < 0) = false := by simp; omega
              have t3 : decide (lv > cv) = false := by simp; omega
              simp only [Instr.makeSlice, Sem.run_bind, run_underlying h1, Result.andThen_ok, asInt, asIntOf, Sem.run_pure, run_typeInfo' hi, wl, wc, t1, t2, t3, Bool.or_self, Bool.false_eq_true, if_false, Sem.run_ite, run_askRoom, run_sizeOf' hS]
              by_cases hz0 : cv.toNat * i.size = 0
              · have hn0 : cv.toNat = 0 := by
                  rcases Nat.mul_eq_zero.1 hz0 with h | h
                  · exact h
                  · omega
                simp only [hz0, if_true, Sem.run_pure, Result.andThen_ok, hn0]
                simp only [newRow, Sem.run_bind, run_newObj, Result.andThen_ok, Sem.run_pure, List.replicate_zero, List.flatten_nil, Nat.zero_mul, if_true]
                have hr0 : (Array.map (fun (x : Nat) => (#[] : Array Value)[x % (#[] : Array Value).size]!) (Array.range 0)) = ([] : List Value).toArray := by simp
                rw [hr0]
              · simp only [hz0, if_false, Sem.run_bind, hzz, Result.andThen_ok, Sem.run_pure, hcells]
                have hr0 : (Array.map (fun (x : Nat) => z.toArray[x % z.toArray.size]!) (Array.range (cv.toNat * i.size))) = (List.flatten (List.replicate cv.toNat z)).toArray := by
                  apply Array.ext'
                  rw [hsz, range_rep z (by omega) cv.toNat]
                rw [hr0]
                simp [newRow, run_newObj]
            · cases hv
          · cases hv
        · cases hc
      · cases hc
    · cases hc
  case makeMap t r =>
    split at hc
    · rename_i k e h1 h2
      simp only [Option.some.injEq] at hc; subst hc
      simp only [allocV, Option.some.injEq, Prod.mk.injEq] at hv
      obtain ⟨rfl, rfl⟩ := hv
      refine ⟨.map #[] 0, tells ?_, rfl, rfl⟩
      simp [Instr.makeMap, run_newObj]
    · cases hc
  case call c =>
    exfalso
    unfold callOp at hc
    repeat' (first | (cases hc; done) | (split at hc))
    all_goals first
      | (simp only [Option.some.injEq] at hc; subst hc; simp [allocV] at hv; done)
      | (simp only [Option.map_eq_some_iff] at hc; obtain ⟨_, _, rfl⟩ := hc; simp [allocV] at hv; done)
  case binOp =>
    exfalso
    unfold eqOp at hc
    repeat' (first | (cases hc; done) | (split at hc))
    all_goals first
      | (simp only [Option.some.injEq] at hc; subst hc; simp [allocV] at hv; done)
      | (simp only [Option.map_eq_some_iff] at hc; obtain ⟨_, _, rfl⟩ := hc; simp [allocV] at hv; done)
  case makeFunc fn first captured =>
    exfalso
    cases fn <;> simp only at hc <;> try (cases hc; done)
    split at hc
    · simp only [Option.some.injEq] at hc; subst hc; simp [allocV] at hv
    · cases hc
  case build =>
    exfalso
    repeat' (first | (cases hc; done) | (split at hc))
    all_goals
      simp only [Option.map_eq_some_iff] at hc
      obtain ⟨_, _, hc⟩ := hc
      first
        | (subst hc; simp [allocV] at hv; done)
        | (split at hc <;> (subst hc; simp [allocV] at hv; done))
  all_goals
    exfalso
    repeat' (first | (cases hc; done) | (split at hc))
    all_goals first
      | (simp only [Option.some.injEq] at hc; subst hc; simp [allocV] at hv; done)
      | (simp only [Option.map_eq_some_iff] at hc; obtain ⟨_, _, rfl⟩ := hc; simp [allocV] at hv; done)

end
end Go.Bb
