/- Every operation: what the short form asks is what the model does. -/
import Derived.Test.YtgoifophjcbpaaaBbK
namespace Go.Bb
set_option linter.unusedSimpArgs false
set_option linter.unusedVariables false

section
variable {E : Env} {ρ : Opd → Option Value} {ev : Operand → Value} {h : Heap} {w : World} {K : Value → Heap → Prop} {P : Program} {ψ : FuncId → Option Nat}

theorem append_out (hs : Sat h w) (argTypes : Array TypeId) (t u ty e : TypeId) (i : TypeInfo) (z : List Value) (base : Option Addr) (n c m : Nat) (xv : Value) (news : List Value)
    (hT0 : argTypes[0]? = some t) (hT1 : argTypes[1]? = some u) (h1 : P.underlying t = some (.slice e)) (h2 : (∃ e2, P.underlying u = some (.slice e2)) ∨ (P.underlying u = some .string)) (hi : P.info? e = some i) (hz : zeroT P e = some z)
    (hsz : i.size = z.length) (hpos : 0 < i.size) (hx : readX h i.size xv = some (m, news)) (hK : appendW i.size i.bytes h base n c m news K) :
    Out P (Builtin.append_ argTypes ty #[.slice base n c, xv]) h w K := by
  have hS : sizeT P e = some i.size := by simp [sizeT, hi]
  obtain ⟨hl, hf, hlen⟩ := run_readX (P := P) hs hx
  have hfw : ∀ w', w'.heap = w.heap → (Builtin.firstCells i.size m xv).run P w' = .ok news.toArray w' := fun w' e' => (run_readX (P := P) (Sat.of_heap e' hs) hx).2.1
  obtain ⟨v, h', w', hr, hrest⟩ := appendRest_out (P := P) (e := e) (appended := Builtin.firstCells i.size m xv) (guard := pure ()) hi hz hsz hpos hs hlen hfw (fun _ _ _ => rfl) hK
  refine ⟨v, h', w', ?_, hrest⟩
  rw [← hr]
  unfold Builtin.append_ appendRest
  simp only [hT0, hT1]
  have hx0 : ((#[Value.slice base n c, xv] : Array Value)[0]?) = some (.slice base n c) := rfl
  have hx1 : ((#[Value.slice base n c, xv] : Array Value)[1]?) = some xv := rfl
  simp only [hx0, hx1]
  have fin : ∀ hfit : ¬ (n + m ≤ c), ¬ (((n + m : Nat) : Int) > IntKind.i64.max) ∧ ¬ (Builtin.nextslicecap (n + m) c * i.bytes > 2 ^ 48) := by
    intro hfit
    unfold appendW at hK
    rw [if_neg hfit] at hK
    obtain ⟨hb, hmx, _⟩ := hK
    have hcap := nextcap_le (n + m) c (by omega)
    constructor
    · simp [IntKind.max, IntKind.signed, IntKind.bits]; omega
    · have : Builtin.nextslicecap (n + m) c * i.bytes ≤ 2 * (n + m) * i.bytes := Nat.mul_le_mul_right _ hcap
      have h3 : 2 * (n + m) * i.bytes = 2 * ((n + m) * i.bytes) := Nat.mul_assoc _ _ _
      omega
  rcases h2 with ⟨e2, h2⟩ | h2
  all_goals
    simp only [Sem.run_bind, run_underlying h1, run_underlying h2, run_sizeOf' hS, Result.andThen_ok, Sem.run_pure, Bool.false_eq_true, if_false, hl, Bool.not_false, if_true, Sem.run_ite, or_false, false_or]
    by_cases hfit : n + m ≤ c
    · simp only [hfit, if_true]; rfl
    · obtain ⟨f1, f2⟩ := fin hfit
      simp only [hfit, if_false, run_typeInfo' hi, Result.andThen_ok, f1, false_and, f2, Sem.run_pure]

theorem appendZ_out (hs : Sat h w) (argTypes : Array TypeId) (t u ty e : TypeId) (ku kx : IntKind) (i : TypeInfo) (z : List Value) (base : Option Addr) (n c : Nat) (m : Int)
    (hT0 : argTypes[0]? = some t) (hT1 : argTypes[1]? = some u) (h1 : P.underlying t = some (.slice e)) (h2 : P.underlying u = some (.int ku)) (hi : P.info? e = some i) (hz : zeroT P e = some z)
    (hsz : i.size = z.length) (hpos : 0 < i.size) (hm0 : 0 ≤ m) (hm1 : m ≤ 9223372036854775807) (hm2 : m * i.bytes ≤ 281474976710656) (hK : appendW i.size i.bytes h base n c m.toNat (List.flatten (List.replicate m.toNat z)) K) :
    Out P (Builtin.append_ argTypes ty #[.slice base n c, .int kx m]) h w K := by
  have hS : sizeT P e = some i.size := by simp [sizeT, hi]
  obtain ⟨zz, hzz, hzc⟩ := zero_of hz
  have hlen : (List.flatten (List.replicate m.toNat z)).length = m.toNat * i.size := by simp [hsz]
  have hfw : ∀ w', w'.heap = w.heap → (if m.toNat * i.size = 0 then pure #[] else do pure (Builtin.zeroCells (← zeroValue e).cells m.toNat) : Sem (Array Value)).run P w' = .ok (List.flatten (List.replicate m.toNat z)).toArray w' := by
    intro w' _
    by_cases hm : m.toNat * i.size = 0
    · have hn0 : m.toNat = 0 := by
        rcases Nat.mul_eq_zero.1 hm with h | h
        · exact h
        · omega
      simp [hn0]
    · simp only [Sem.run_ite, hm, if_false, Sem.run_bind, hzz, Result.andThen_ok, hzc, Sem.run_pure, zeroCells_eq z (by omega)]
  obtain ⟨v, h', w', hr, hrest⟩ := appendRest_out (P := P) (e := e) (appended := (if m.toNat * i.size = 0 then pure #[] else do pure (Builtin.zeroCells (← zeroValue e).cells m.toNat) : Sem (Array Value))) (guard := pure ()) hi hz hsz hpos hs hlen hfw (fun _ _ _ => rfl) hK
  refine ⟨v, h', w', ?_, hrest⟩
  rw [← hr]
  unfold Builtin.append_ appendRest
  simp only [hT0, hT1]
  have hx0 : ((#[Value.slice base n c, .int kx m] : Array Value)[0]?) = some (.slice base n c) := rfl
  have hx1 : ((#[Value.slice base n c, .int kx m] : Array Value)[1]?) = some (.int kx m) := rfl
  simp only [hx0, hx1]
  have wm : IntKind.i64.wrap m = m := by simp [IntKind.wrap, IntKind.bits, IntKind.signed]; omega
  have g1 : ¬ (m < 0) := by omega
  have g2 : ¬ (m * i.bytes > 2 ^ 48) := by omega
  have fin : ∀ hfit : ¬ (n + m.toNat ≤ c), ¬ (((n + m.toNat : Nat) : Int) > IntKind.i64.max) ∧ ¬ (Builtin.nextslicecap (n + m.toNat) c * i.bytes > 2 ^ 48) := by
    intro hfit
    unfold appendW at hK
    rw [if_neg hfit] at hK
    obtain ⟨hb, hmx, _⟩ := hK
    have hcap := nextcap_le (n + m.toNat) c (by omega)
    constructor
    · simp [IntKind.max, IntKind.signed, IntKind.bits]; omega
    · have : Builtin.nextslicecap (n + m.toNat) c * i.bytes ≤ 2 * (n + m.toNat) * i.bytes := Nat.mul_le_mul_right _ hcap
      have h3 : 2 * (n + m.toNat) * i.bytes = 2 * ((n + m.toNat) * i.bytes) := Nat.mul_assoc _ _ _
      omega
  simp only [Sem.run_bind, run_underlying h1, run_underlying h2, run_sizeOf' hS, Result.andThen_ok, Sem.run_pure, if_true, Sem.run_ite, asInt, asIntOf, wm, g1, if_false, run_typeInfo' hi, g2, Bool.not_true, Bool.false_eq_true, true_or, and_true]
  by_cases hfit : n + m.toNat ≤ c
  · simp only [hfit, if_true]; rfl
  · obtain ⟨f1, f2⟩ := fin hfit
    simp only [hfit, if_false, f1, f2]

theorem store_out (hs : Sat h w) {t : TypeId} {size : Nat} (hz : sizeT P t = some size) {p : Addr} {v : Value} {h' : Heap} (h1 : v.cells.size = size) (h2 : ∀ u ∈ v.cells.toList, one u = true) (h3 : hstore h p v.cells.toList = some h') :
    ∃ w', (Instr.storeAt t (.pointer (some p)) v).run P w = .ok () w' ∧ Sat h' w' ∧ Fr h h' w w' := by
  obtain ⟨w', hr, hs', hf⟩ := run_hstore (P := P) hs h2 h3
  refine ⟨w', ?_, hs', hf⟩
  simp only [Instr.storeAt, Instr.sureAddr, Sem.run_bind, Sem.run_pure, Result.andThen_ok, storeVar, run_sizeOf' hz]
  simp [h1, hr]

theorem copy_out (hs : Sat h w) (argTypes : Array TypeId) (t ty e : TypeId) (size : Nat) (hT0 : argTypes[0]? = some t) (h1 : P.underlying t = some (.slice e)) (hz : sizeT P e = some size) (base : Option Addr) (n c : Nat) (sv : Value)
    (m : Nat) (cells : List Value) (hl : ∀ w : World, (Builtin.lenOf sv).run P w = .ok m w) (hf : (Builtin.firstCells size (min m n) sv).run P w = .ok cells.toArray w)
    (h3 : ∀ u ∈ cells, one u = true) (hK : match base with | none => K (.int .i64 (min m n : Nat)) h | some a => (match hstore h a cells with | some h' => K (.int .i64 (min m n : Nat)) h' | none => False)) :
    Out P (Builtin.copy_ argTypes ty #[.slice base n c, sv]) h w K := by
  unfold Builtin.copy_ Out
  have hx0 : ((#[Value.slice base n c, sv] : Array Value)[0]?) = some (.slice base n c) := rfl
  have hx1 : ((#[Value.slice base n c, sv] : Array Value)[1]?) = some sv := rfl
  simp only [hT0, hx0, hx1, Sem.run_bind, run_underlying h1, Result.andThen_ok, hl, run_sizeOf' hz]
  have hm : Nat.min m n = min m n := rfl
  rw [hm, hf]
  simp only [Result.andThen_ok]
  cases base with
  | none => exact ⟨_, h, w, rfl, hs, Fr.refl _ _, hK⟩
  | some a =>
    simp only at hK
    split at hK
    · rename_i h' hst
      obtain ⟨w', hr, hs', hfr⟩ := run_hstore (P := P) hs h3 hst
      refine ⟨_, h', w', ?_, hs', hfr, hK⟩
      simp [hr, goInt]
    · exact hK.elim

theorem sat_obj {r : Nat} {o o' : Obj} (hs : Sat h w) (hr : h r = some (.obj o)) (hn : Obj.notCells o' = true) :
    Sat (h.set r (.obj o')) { w with heap := w.heap.setIfInBounds r o' } ∧ Fr h (h.set r (.obj o')) w { w with heap := w.heap.setIfInBounds r o' } := by
  have hlt := hs.lt hr
  constructor
  · refine sat_set hs ⟨by simp [hlt], hn⟩ ?_
    intro c hne _
    simp [Array.getElem?_setIfInBounds_ne (Ne.symm hne)]
  · refine ⟨rfl, rfl, rfl, by simp, ?_, ?_, ?_⟩
    · intro b hb hf
      have hne : r ≠ b := by
        intro he; subst he
        rcases hf with hf | ⟨o2, hf⟩ <;> rw [hr] at hf <;> cases hf
      simp [Array.getElem?_setIfInBounds_ne hne]
    · intro b hnn hs'
      unfold Heap.set at hs'
      split at hs'
      · rename_i he; subst he; rw [hr] at hnn; cases hnn
      · exact absurd hnn hs'
    · intro b o2 hro
      unfold Heap.set
      split
      · rename_i he; subst he; rw [hr] at hro; cases hro
      · exact hro

theorem run_setObj' {r : Nat} {o o' : Obj} (hs : Sat h w) (hr : h r = some (.obj o)) : (setObj r o').run P w = .ok () { w with heap := w.heap.setIfInBounds r o' } := by
  obtain ⟨ho, hn⟩ := hs _ _ hr
  cases o <;> simp [Obj.notCells] at hn <;> simp [setObj, Sem.run, ho]

theorem mapAt_obj {r : Nat} {es : Array MapEntry} {c : Nat} (hr : h r = some (.obj (.map es c))) : mapAt h r = some (es, c) := by simp [mapAt, hr]

theorem sameBits_of_keyV {kt : KeyT} {a b : Value} (hk : keyV kt a b = some true) : Instr.sameBits 10000 b a = true := by
  unfold keyV at hk
  split at hk
  · split at hk
    · rename_i hkk
      simp only [Option.some.injEq, beq_iff_eq] at hk
      subst hkk; subst hk
      simp [Instr.sameBits]
    · cases hk
  · simp only [Option.some.injEq] at hk
    simp only [Instr.sameBits, beq_toListBytes]
    simpa using (by simpa using hk : _ = _).symm
  · split at hk
    · rename_i hc
      simp only [Bool.and_eq_true] at hc
      simp only [Option.some.injEq] at hk
      rename_i ks a b
      have key : ∀ (ks : List (Option IntKind)) (xs ys : List Value), leavesOk ks xs = true → leavesOk ks ys = true → leavesEq xs ys = true → xs.length = ys.length ∧ (ys.zip xs).all (fun x => Instr.sameBits 9999 x.1 x.2) = true := by
        intro ks
        induction ks with
        | nil =>
          intro xs ys h1 h2 _
          cases xs <;> cases ys <;> simp_all [leavesOk]
        | cons k ks ih =>
          intro xs ys h1 h2 h3
          cases xs with
          | nil => simp [leavesOk] at h1
          | cons x xs =>
            cases ys with
            | nil => simp [leavesOk] at h2
            | cons y ys =>
              simp only [leavesOk, leavesEq, Bool.and_eq_true] at h1 h2 h3
              obtain ⟨e1, e2⟩ := ih xs ys h1.2 h2.2 h3.2
              refine ⟨by simp [e1], ?_⟩
              simp only [List.zip_cons_cons, List.all_cons, Bool.and_eq_true]
              refine ⟨?_, e2⟩
              cases k with
              | none =>
                cases x <;> simp [leafOk] at h1
                cases y <;> simp [leafOk] at h2
                have := h3.1
                simp only [leafEq] at this
                simp only [Instr.sameBits, beq_toListBytes]
                simpa using (by simpa using this : _ = _).symm
              | some k =>
                cases x <;> simp [leafOk] at h1
                cases y <;> simp [leafOk] at h2
                have := h3.1
                simp only [leafEq] at this
                obtain ⟨rfl, _⟩ := h1
                obtain ⟨rfl, _⟩ := h2
                simp only [Instr.sameBits]
                simpa using (by simpa using this : _ = _).symm
      obtain ⟨e1, e2⟩ := key ks a.toList b.toList hc.1 hc.2 hk
      rw [show (10000 : Nat) = 9999 + 1 from rfl]
      simp only [Instr.sameBits, Bool.and_eq_true, beq_iff_eq]
      refine ⟨by simpa using e1.symm, ?_⟩
      simpa using e2
    · cases hk
  · cases hk

end
end Go.Bb
