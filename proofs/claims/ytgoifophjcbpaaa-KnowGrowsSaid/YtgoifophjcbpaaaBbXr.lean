/- Reckoning: each operation that changes nothing, more. -/
import Derived.Test.YtgoifophjcbpaaaBbXq
namespace Go.Bb
set_option linter.unusedVariables false
set_option linter.unusedSimpArgs false

section
variable {fid : Nat → Option FuncId} {r : Rr} {m : VM} {h : Heap} {ρ ρ' : Opd → Option Value} {v : Value}

theorem esE_some (p : HR fid r m h) {b es : Nat} {k : Rm} (hk : r b = some k) (e : esE m b = some es) : k.es = es ∧ (es = 0 → k.sh = 0) := by
  unfold esE at e
  split at e
  · rename_i es' vs hx
    simp only [Option.some.injEq] at e; subst e
    obtain ⟨y, hy, hb⟩ := HR.at (p := p) hk hx
    cases hb with
    | cells he hp hv h0 hz => exact ⟨he, fun z => by rw [← hp, (h0 z).1]; rfl⟩
  · cases e
theorem exactE_true (p : HR fid r m h) {b : Nat} {k : Rm} (hk : r b = some k) (e : exactE m b = true) : k.es = 0 := by
  unfold exactE at e
  split at e
  · rename_i hh; exact (esE_some p hk hh).1
  · cases e
theorem growE_true (p : HR fid r m h) {b size : Nat} {k : Rm} (hk : r b = some k) (e : growE m b size = true) : k.es = size ∧ k.es ≠ 0 := by
  unfold growE at e
  split at e
  · rename_i es hh
    have := (esE_some p hk hh).1
    have e2 := Nat.eq_of_beq_eq_true e
    omega
  · cases e

theorem oCap_sim (s : Sim fid r ρ ρ') (p : HR fid r m h) {x : Opd} (e : oCap x ρ m = some v) : ∃ v', pureV fid ρ' h (.capS x) = some v' ∧ VR fid r v v' := by
  unfold oCap at e
  split at e
  · rename_i u hu
    obtain ⟨u', h1, h2⟩ := s x _ hu
    split at e
    · rename_i n c hs
      rw [mkInt_eq, Option.some.injEq] at e; subst e
      rw [vSl_some hs] at h2
      rw [h2.of_sl0] at h1
      exact ⟨_, by simp only [pureV, h1], .int⟩
    · rename_i a n c hs
      rw [vSl_some hs] at h2
      obtain ⟨k, c', o, hsp, hk, rfl, hn, q0, q1⟩ := h2.of_sl
      cases hx : exactE m a.block with
      | false => rw [hx] at e; cases e
      | true =>
        rw [hx] at e; simp only [cond_true] at e
        rw [mkInt_eq, Option.some.injEq] at e; subst e
        have := (q0 (exactE_true p hk hx)).1
        subst this
        exact ⟨_, by simp only [pureV, h1], .int⟩
    · cases e
  · cases e

theorem bndV_le {d most i : Nat} {x : Option (Option Value)} (hd : d ≤ most) (e : bndV d most x = some i) : i ≤ most := by
  unfold bndV at e
  split at e
  · simp only [Option.some.injEq] at e; omega
  · split at e
    · simp only [Option.some.injEq] at e; omega
    · cases e
  · cases e
theorem bnds_le {len cap l hh m' : Nat} {lo hi mx : Option (Option Value)} (e : bnds len cap lo hi mx = some (l, hh, m')) : l ≤ hh ∧ hh ≤ m' ∨ (hh = len ∧ l ≤ hh) := by
  unfold bnds at e
  split at e
  · cases e
  · rename_i q hq
    split at e
    · cases e
    · rename_i hx hhx
      split at e
      · cases e
      · rename_i lx hlx
        simp only [Option.some.injEq, Prod.mk.injEq] at e
        obtain ⟨rfl, rfl, rfl⟩ := e
        have h1 := bndV_le (Nat.zero_le _) hlx
        split at hhx
        · cases hhx
        · unfold bndV at hhx
          split at hhx
          · simp only [Option.some.injEq] at hhx; exact .inr ⟨hhx.symm, h1⟩
          · split at hhx
            · rename_i hc; simp only [Option.some.injEq] at hhx; left; exact ⟨h1, by omega⟩
            · cases hhx
          · cases hhx

theorem oArrOf_sim (s : Sim fid r ρ ρ') {n : Nat} {x : Opd} (e : oArrOf n x ρ m = some v) : ∃ v', pureV fid ρ' h (.arrOf n x) = some v' ∧ VR fid r v v' := by
  unfold oArrOf at e
  split at e
  · rename_i u hu
    obtain ⟨u', h1, h2⟩ := s x _ hu
    split at e
    · rename_i a len c hs
      rw [vSl_some hs] at h2
      obtain ⟨k, c', o, hsp, hk, rfl, hn, q0, q1⟩ := h2.of_sl
      cases hx : (Nat.ble n len && Nat.blt 0 n) with
      | false => rw [hx] at e; cases e
      | true =>
        rw [hx] at e; simp only [cond_true, Option.some.injEq] at e; subst e
        simp only [Bool.and_eq_true] at hx
        have g1 := Nat.le_of_ble_eq_true hx.1
        have g2 : 0 < n := by have := hx.2; simp [Nat.blt] at this; omega
        simp only at hn q0 q1
        have ho : o = a.off + k.sh := by
          by_cases z : k.es = 0
          · exact (q0 z).2
          · exact (q1 z).2 (by omega)
        subst ho
        exact ⟨_, by simp only [pureV, h1]; rw [if_neg (by simp; omega)], .one (.one (.base (.ptr hsp hk)))⟩
    · cases e
  · cases e

theorem oLenM_sim (s : Sim fid r ρ ρ') (p : HR fid r m h) {x : Opd} (e : oLenM x ρ m = some v) : ∃ v', pureV fid ρ' h (.lenM x) = some v' ∧ VR fid r v v' := by
  unfold oLenM at e
  split at e
  · rename_i u hu
    obtain ⟨u', h1, h2⟩ := s x _ hu
    split at e
    · rename_i hs
      rw [mkInt_eq, Option.some.injEq] at e; subst e
      rw [vMap_some hs] at h2
      rw [h2.of_map0] at h1
      exact ⟨_, by simp only [pureV, h1], .int⟩
    · rename_i b hs
      rw [vMap_some hs] at h2
      obtain ⟨k, hk, rfl⟩ := h2.of_map
      split at e
      · rename_i es c hx
        rw [mkInt_eq, Option.some.injEq] at e; subst e
        obtain ⟨y, hy, hb⟩ := HR.at (p := p) hk hx
        cases hb with
        | map he =>
          rename_i es'
          have := he.length
          exact ⟨_, by simp only [pureV, h1, mapAt, hy, Option.map_some]; rw [← Array.length_toList, ← this], .int⟩
      · cases e
    · cases e
  · cases e

theorem findV_sim {kt : KeyT} {kv : Value} : ∀ {es es' : List MapEntry} {i : Nat} {q : Option (Nat × Value)}, All2 (ER fid r) es es' → findV kt kv es i = some q →
    (q = none ∧ findV kt kv es' i = some none) ∨ (∃ j v v', q = some (j, v) ∧ findV kt kv es' i = some (some (j, v')) ∧ VR1 fid r v v')
  | [], _, i, q, .nil, e => by simp only [findV, Option.some.injEq] at e; subst e; exact .inl ⟨rfl, rfl⟩
  | a :: as, _, i, q, .cons (b := b) (bs := bs) hab t, e => by
    simp only [findV] at e
    simp only [findV, hab.key]
    split at e
    · rename_i hk
      simp only [Option.some.injEq] at e; subst e
      right
      exact ⟨i, a.val, b.val, rfl, rfl, hab.val⟩
    · rename_i hk
      exact findV_sim t e
    · cases e
end
end Go.Bb
