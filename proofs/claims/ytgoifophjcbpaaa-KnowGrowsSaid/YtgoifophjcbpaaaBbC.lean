/- What the short operations tell is what the model's operations tell. -/
import Derived.Test.YtgoifophjcbpaaaBbB
namespace Go.Bb
set_option linter.unusedSimpArgs false
set_option linter.unusedVariables false

section
variable {P : Program} {ψ : FuncId → Option Nat} {fid : Nat → Option FuncId} {ρ : Opd → Option Value} {ev : Operand → Value} {h : Heap} {w : World}

/-- The short operands tell what the long ones do. -/
def Agree (ψ : FuncId → Option Nat) (ρ : Opd → Option Value) (ev : Operand → Value) : Prop :=
  ∀ x y v, conO ψ x = some y → ρ y = some v → ev x = v

theorem run_typeInfo' {t : TypeId} {i : TypeInfo} (h : P.info? t = some i) (w : World) : (typeInfo t).run P w = .ok i w := by
  simp [typeInfo, h]

theorem run_sizeOf' {t : TypeId} {n : Nat} (h : sizeT P t = some n) (w : World) : (sizeOf t).run P w = .ok n w := by
  unfold sizeT at h
  cases e : P.info? t with
  | none => simp [e] at h
  | some i => simp [e] at h; simp [sizeOf, run_typeInfo' e, h]

theorem run_isAgg' {t : TypeId} {b : Bool} (h : aggT P t = some b) (w : World) : (isAgg t).run P w = .ok b w := by
  unfold aggT at h
  cases e : P.underlying t with
  | none => simp [e] at h
  | some d =>
    simp only [isAgg, Sem.run_bind, run_underlying e, Result.andThen_ok]
    cases d <;> simp_all

theorem kindT_spec {t : TypeId} {k : Option Nat} (h : kindT P t = some k) :
    (k = none ∧ aggT P t = some false) ∨ (∃ n, k = some n ∧ aggT P t = some true ∧ sizeT P t = some n) := by
  unfold kindT at h
  split at h
  · rename_i n h1 h2; simp only [Option.some.injEq] at h; subst h; exact .inr ⟨_, rfl, h1, h2⟩
  · rename_i h1 h2; simp only [Option.some.injEq] at h; subst h; exact .inl ⟨rfl, h1⟩
  · cases h

theorem run_load_ {a : Addr} {v : Value} (hs : Sat h w) (e : hcell h a = some v) : (load a).run P w = .ok v w := by
  simp [cell_of_hcell hs e]

theorem run_loadVar' {t : TypeId} {k : Option Nat} {a : Addr} {v : Value} (hs : Sat h w) (hk : kindT P t = some k)
    (hv : readK h a k = some v) : (loadVar t a).run P w = .ok v w := by
  rcases kindT_spec hk with ⟨rfl, ha⟩ | ⟨n, rfl, ha, hn⟩
  · simp only [loadVar, Sem.run_bind, run_isAgg' ha, Result.andThen_ok]
    simp only [readK] at hv
    exact run_load_ hs hv
  · simp only [loadVar, Sem.run_bind, run_isAgg' ha, Result.andThen_ok, if_true]
    simp only [readK, Option.map_eq_some_iff] at hv
    obtain ⟨l, hl, rfl⟩ := hv
    simp [run_sizeOf' hn, run_loadCells hs hl]

theorem run_part' {t : TypeId} {k : Option Nat} {cs : Array Value} {off : Nat} {v : Value} (hk : kindT P t = some k)
    (hv : partK cs.toList off k = some v) : (part t cs off).run P w = .ok v w := by
  rcases kindT_spec hk with ⟨rfl, ha⟩ | ⟨n, rfl, ha, hn⟩
  · simp only [part, Sem.run_bind, run_isAgg' ha, Result.andThen_ok]
    have : cs[off]? = some v := by simpa [partK] using hv
    simp [this]
  · simp only [part, Sem.run_bind, run_isAgg' ha, Result.andThen_ok, if_true]
    simp only [partK, Option.some.injEq] at hv
    subst hv
    simp only [Sem.run_bind, run_sizeOf' hn, Result.andThen_ok, Sem.run_pure]
    congr 2
    apply Array.ext'
    simp [List.take_drop, Nat.add_comm]

theorem binV_sound {op : BinOp} {t : TypeId} {x y : Operand} {a b v : Value} (he : op ≠ .eql) (hn : op ≠ .neq) (hv : binV op a b = some v) :
    (eqGuard op t x y a b >>= fun _ => binOp op t a b).run P w = .ok v w := by
  have hg : (eqGuard op t x y a b).run P w = .ok () w := by
    unfold eqGuard; cases op <;> simp_all
  simp only [Sem.run_bind, hg, Result.andThen_ok]
  unfold binV at hv
  split at hv
  · split at hv
    · cases hv
    · rename_i hb
      simp only [Option.some.injEq] at hv; subst hv
      simp [binOp, Op.shift, hb]
  · split at hv
    · cases hv
    · rename_i hb
      simp only [Option.some.injEq] at hv; subst hv
      simp [binOp, Op.shift, hb]
  all_goals first
    | (exact absurd rfl he)
    | (exact absurd rfl hn)
    | (split at hv
       · first
         | (simp only [Option.some.injEq] at hv
            subst hv
            rename_i hk
            subst hk
            simp [binOp, Op.intArith, Op.intBits, Op.intCmp]
            done)
         | (split at hv
            · cases hv
            · rename_i hk hb
              subst hk
              simp only [Option.some.injEq] at hv
              subst hv
              simp [binOp, Op.intDiv, hb])
         | (rename_i hle
            simp only [Option.some.injEq] at hv
            subst hv
            simp [binOp, Op.stringOp, IntKind.max, IntKind.signed, IntKind.bits]
            omega)
       · cases hv)
    | (simp only [Option.some.injEq] at hv
       subst hv
       simp [binOp, Op.stringOp]
       done)
    | (cases hv)

theorem leafEq_run {D : Nat} {t : TypeId} {k : Option IntKind} {a b : Value} (ht : (match k with | some k => P.underlying t = some (.int k) | none => P.underlying t = some .string)) (h1 : leafOk k a = true) (h2 : leafOk k b = true) :
    (Op.equalIn (D + 1) t a b).run P w = .ok (leafEq a b) w := by
  cases k with
  | some k =>
    cases a <;> simp [leafOk] at h1
    cases b <;> simp [leafOk] at h2
    subst h1; subst h2
    exact run_equalIn_int (P := P) w D t _ _ _ _ ht
  | none =>
    cases a <;> simp [leafOk] at h1
    cases b <;> simp [leafOk] at h2
    exact run_equalIn_string (P := P) w D t _ _ ht

end
end Go.Bb
