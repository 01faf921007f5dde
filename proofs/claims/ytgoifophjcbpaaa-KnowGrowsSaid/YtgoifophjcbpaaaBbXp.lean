/- Reckoning: operations that change nothing. -/
import Derived.Test.YtgoifophjcbpaaaBbXn
namespace Go.Bb
set_option linter.unusedVariables false
set_option linter.unusedSimpArgs false

/-- What operands tell on both sides. -/
def Sim (fid : Nat → Option FuncId) (r : Rr) (ρ ρ' : Opd → Option Value) : Prop := ∀ x v, ρ x = some v → ∃ v', ρ' x = some v' ∧ VR fid r v v'

section
variable {fid : Nat → Option FuncId} {r : Rr} {m : VM} {h : Heap} {ρ ρ' : Opd → Option Value}

theorem Sim.int (s : Sim fid r ρ ρ') {x : Opd} {k : IntKind} {n : Int} (e : ρ x = some (.int k n)) : ρ' x = some (.int k n) := by
  obtain ⟨v', h1, h2⟩ := s x _ e; rw [h2.of_int] at h1; exact h1
theorem Sim.bool (s : Sim fid r ρ ρ') {x : Opd} {b : Bool} (e : ρ x = some (.bool b)) : ρ' x = some (.bool b) := by
  obtain ⟨v', h1, h2⟩ := s x _ e; rw [h2.of_bool] at h1; exact h1
theorem Sim.str (s : Sim fid r ρ ρ') {x : Opd} {b : ByteArray} (e : ρ x = some (.string b)) : ρ' x = some (.string b) := by
  obtain ⟨v', h1, h2⟩ := s x _ e; rw [h2.of_str] at h1; exact h1
theorem VR.of_plain {v v' : Value} (h : VR fid r v v') (p : Bb.plain v = true) : v' = v := by
  cases h with
  | one h => cases h with
    | one h => cases h with
      | base h => cases h with
        | plain _ => rfl
        | ptr hs hk => cases p
        | slice hs hk hn h0 h1 => cases p
        | map hk => cases p
      | func hg ha hc => cases p
    | agg h => cases p
  | tup h => cases p
theorem Sim.plain' (s : Sim fid r ρ ρ') {x : Opd} {v : Value} (e : ρ x = some v) (p : Bb.plain v = true) : ρ' x = some v := by
  obtain ⟨v', h1, h2⟩ := s x _ e; rw [h2.of_plain p] at h1; exact h1

theorem Sim.allV (s : Sim fid r ρ ρ') : ∀ {xs : List Opd} {vs : List Value}, allV ρ xs = some vs → ∃ vs', allV ρ' xs = some vs' ∧ All2 (VR fid r) vs vs'
  | [], vs, e => by simp only [Go.Bb.allV, Option.some.injEq] at e; subst e; exact ⟨[], rfl, .nil⟩
  | x :: xs, vs, e => by
    simp only [Go.Bb.allV] at e
    split at e
    · rename_i v vs hv hvs
      simp only [Option.some.injEq] at e; subst e
      obtain ⟨v', h1, h2⟩ := s x _ hv
      obtain ⟨vs', h3, h4⟩ := s.allV hvs
      exact ⟨v' :: vs', by simp only [Go.Bb.allV, h1, h3], .cons h2 h4⟩
    · cases e

theorem bndV_sim (s : Sim fid r ρ ρ') {x : Option Opd} {d most i : Nat} (e : bndV d most (oOpt ρ x) = some i) : bndV d most (oOpt ρ' x) = some i := by
  cases x with
  | none => exact e
  | some x =>
    simp only [oOpt] at e ⊢
    unfold bndV at e
    split at e
    · rename_i hh; cases hh
    · rename_i k j hh
      simp only [Option.some.injEq] at hh
      rw [s.int hh]
      exact e
    · cases e

theorem bnds_sim (s : Sim fid r ρ ρ') {lo hi mx : Option Opd} {len cap : Nat} {q : Nat × Nat × Nat} (e : bnds len cap (oOpt ρ lo) (oOpt ρ hi) (oOpt ρ mx) = some q) : bnds len cap (oOpt ρ' lo) (oOpt ρ' hi) (oOpt ρ' mx) = some q := by
  unfold bnds at e ⊢
  split at e
  · cases e
  · rename_i m' hm
    rw [bndV_sim s hm]
    simp only
    have i1 : (oOpt ρ mx).isSome = (oOpt ρ' mx).isSome := by cases mx <;> rfl
    have i2 : (oOpt ρ hi).isNone = (oOpt ρ' hi).isNone := by cases hi <;> rfl
    rw [i1, i2] at e
    split at e
    · cases e
    · rename_i hh hhi
      have : (if ((oOpt ρ' mx).isSome && (oOpt ρ' hi).isNone) = true then none else bndV len m' (oOpt ρ' hi)) = some hh := by
        split at hhi
        · cases hhi
        · rename_i hc; rw [if_neg hc]; exact bndV_sim s hhi
      rw [this]
      simp only
      split at e
      · cases e
      · rename_i l hl
        rw [bndV_sim s hl]; exact e

theorem leaves_eq : ∀ {ks : List (Option IntKind)} {a a' : List Value}, leavesOk ks a = true → All2 (VR0 fid r) a a' → a' = a
  | [], [], _, h, .nil => rfl
  | [], _ :: _, _, h, _ => by simp [leavesOk] at h
  | _ :: _, [], _, h, _ => by simp [leavesOk] at h
  | k :: ks, v :: vs, _, h, .cons hv ht => by
    simp only [leavesOk, Bool.and_eq_true] at h
    have e1 := leaves_eq h.2 ht
    have hp : plain v = true := by
      have := h.1
      unfold leafOk at this
      split at this
      · rfl
      · rfl
      · cases this
    have e2 : _ = v := VR.of_plain (.one (.one hv)) hp
    rw [e1, e2]

theorem part_sim {cs cs' : List Value} (ha : All2 (VR0 fid r) cs cs') {off : Nat} {k : Option Nat} {v : Value} (e : partK cs off k = some v) : ∃ v', partK cs' off k = some v' ∧ VR fid r v v' := by
  cases k with
  | none =>
    obtain ⟨b, h1, h2⟩ := ha.get e
    exact ⟨b, h1, .one (.one h2)⟩
  | some n =>
    simp only [partK, Option.some.injEq] at e; subst e
    exact ⟨_, rfl, .one (.agg (by simpa using (ha.drop off).take n))⟩

theorem bytesV_sim : ∀ {l l' : List Value} {bs : List UInt8}, All2 (VR0 fid r) l l' → bytesV l = some bs → bytesV l' = some bs
  | [], _, bs, .nil, h => h
  | v :: vs, _, bs, .cons hv ht, h => by
    unfold bytesV at h
    split at h
    · rename_i hh; cases hh
    · rename_i n rr hh
      simp only [List.cons.injEq] at hh
      obtain ⟨rfl, rfl⟩ := hh
      rw [VR.of_int (.one (.one hv))]
      rw [Option.map_eq_some_iff] at h
      obtain ⟨y, hy, rfl⟩ := h
      simp only [bytesV, bytesV_sim ht hy, Option.map_some]
    · cases h
end
end Go.Bb
