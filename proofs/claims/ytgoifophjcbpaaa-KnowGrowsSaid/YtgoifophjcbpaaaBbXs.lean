/- Reckoning: slice expressions. -/
import Derived.Test.YtgoifophjcbpaaaBbXr
namespace Go.Bb
set_option linter.unusedVariables false
set_option linter.unusedSimpArgs false

section
variable {fid : Nat → Option FuncId} {r : Rr} {m : VM} {h : Heap} {ρ ρ' : Opd → Option Value} {v : Value}

theorem bnds_le2 {len cap l hh m' : Nat} {lo hi mx : Option (Option Value)} (hc : len ≤ cap) (e : bnds len cap lo hi mx = some (l, hh, m')) : l ≤ hh ∧ hh ≤ m' := by
  unfold bnds at e
  split at e
  · cases e
  · rename_i q hq
    split at e
    · cases e
    · rename_i hx hhx
      split at e
      · cases e
      · rename_i lx hlx
        simp only [Option.some.injEq, Prod.mk.injEq] at e
        obtain ⟨rfl, rfl, rfl⟩ := e
        have h1 := bndV_le (Nat.zero_le _) hlx
        refine ⟨h1, ?_⟩
        split at hhx
        · cases hhx
        · rename_i hcond
          unfold bndV at hhx
          split at hhx
          · simp only [Option.some.injEq] at hhx; subst hhx
            cases mx with
            | none => simp only [bndV, Option.some.injEq] at hq; omega
            | some z => simp at hcond
          · split at hhx
            · rename_i hc; simp only [Option.some.injEq] at hhx; omega
            · cases hhx
          · cases hhx

theorem cutE_some {a : Addr} {size l hh m' : Nat} (e : cutE a size l hh m' = some v) : (bif Nat.beq m' l then a else a.add (l * size)).spot = none ∧ v = .slice (some (bif Nat.beq m' l then a else a.add (l * size))) (hh - l) (m' - l) := by
  unfold cutE at e
  exact mkSl_some e

theorem add_none (b o n : Nat) : (⟨b, o, none⟩ : Addr).add n = ⟨b, o + n, none⟩ := by simp [Addr.add]

theorem cut_rel {a : Addr} {size l hh m' : Nat} {k : Rm} (hs : a.spot = none) (hk : r a.block = some k) (hes : k.es = 0) (hle : l ≤ hh ∧ hh ≤ m') :
    VRb r (.slice (some (bif Nat.beq m' l then a else a.add (l * size))) (hh - l) (m' - l)) (.slice (some (if m' = l then k.at a else (k.at a).add (l * size))) (hh - l) (m' - l)) := by
  by_cases e : m' = l
  · subst e
    rw [Nat.beq_refl, if_pos rfl]
    exact .slice hs hk (by omega) (fun _ => ⟨rfl, rfl⟩) (fun hh => absurd hes hh)
  · have : Nat.beq m' l = false := by cases q : Nat.beq m' l with | false => rfl | true => exact absurd (Nat.eq_of_beq_eq_true q) e
    rw [this, if_neg e]
    simp only [cond_false]
    have h1 := add_off a (l * size)
    have h2 := add_block a (l * size)
    have h3 := add_spot hs (l * size)
    have e4 : (k.at a).add (l * size) = ⟨k.b, a.off + k.sh + l * size, none⟩ := add_none _ _ _
    rw [e4]
    exact .slice h3 (by rw [h2]; exact hk) (by omega) (fun _ => ⟨rfl, by rw [h1]; omega⟩) (fun hh => absurd hes hh)

theorem oSlArr_sim (s : Sim fid r ρ ρ') (p : HR fid r m h) {n size : Nat} {x : Opd} {lo hi mx : Option Opd} (e : oSlArr n size x lo hi mx ρ m = some v) : ∃ v', pureV fid ρ' h (.slArr n size x lo hi mx) = some v' ∧ VR fid r v v' := by
  unfold oSlArr at e
  split at e
  · rename_i u hu
    obtain ⟨u', h1, h2⟩ := s x _ hu
    split at e
    · rename_i a ha
      rw [vPtr_some ha] at h2
      obtain ⟨k, hs, hk, rfl⟩ := h2.of_ptr
      cases hx : exactE m a.block with
      | false => rw [hx] at e; cases e
      | true =>
        rw [hx] at e; simp only [cond_true] at e
        have hes := exactE_true p hk hx
        split at e
        · rename_i l hh m' hb
          obtain ⟨_, rfl⟩ := cutE_some e
          refine ⟨_, by simp only [pureV, h1, bnds_sim s hb], .one (.one (.base (cut_rel hs hk hes (bnds_le2 (Nat.le_refl _) hb))))⟩
        · cases e
    · cases e
  · cases e

theorem oSl_sim (s : Sim fid r ρ ρ') (p : HR fid r m h) {size : Nat} {x : Opd} {lo hi mx : Option Opd} (e : oSl size x lo hi mx ρ m = some v) : ∃ v', pureV fid ρ' h (.slSl size x lo hi mx) = some v' ∧ VR fid r v v' := by
  unfold oSl at e
  split at e
  · rename_i u hu
    obtain ⟨u', h1, h2⟩ := s x _ hu
    split at e
    · rename_i len cap hs
      rw [vSl_some hs] at h2
      rw [h2.of_sl0] at h1
      split at e
      · rename_i l hh m' hb
        simp only [Option.some.injEq] at e; subst e
        refine ⟨.slice none (hh - l) (m' - l), ?_, .plain rfl⟩
        simp only [pureV, h1, bnds_sim s hb]
        split <;> rfl
      · cases e
    · rename_i a len cap hs
      rw [vSl_some hs] at h2
      obtain ⟨k, c', o, hsp, hk, rfl, hn, q0, q1⟩ := h2.of_sl
      simp only at hn q0 q1
      cases hx : exactE m a.block with
      | true =>
        rw [hx] at e; simp only [cond_true] at e
        have hes := exactE_true p hk hx
        obtain ⟨rfl, rfl⟩ := q0 hes
        split at e
        · rename_i l hh m' hb
          obtain ⟨_, rfl⟩ := cutE_some e
          refine ⟨.slice (some (if m' = l then k.at a else (k.at a).add (l * size))) (hh - l) (m' - l), ?_, .one (.one (.base (cut_rel hsp hk hes (bnds_le2 hn hb))))⟩
          simp only [pureV, h1, bnds_sim s hb]
          split <;> rfl
        · cases e
      | false =>
        rw [hx] at e; simp only [cond_false] at e
        cases hg : (mx.isNone && growE m a.block size) with
        | false => rw [hg] at e; cases e
        | true =>
          rw [hg] at e; simp only [cond_true] at e
          simp only [Bool.and_eq_true] at hg
          obtain ⟨hes, hne⟩ := growE_true p hk hg.2
          obtain ⟨w1, w2⟩ := q1 hne
          have hmx : mx = none := by simpa using hg.1
          subst hmx
          split at e
          · rename_i l hh hb
            obtain ⟨hsa, rfl⟩ := mkSl_some e
            unfold bndsE at hb
            split at hb
            · cases hb
            · rename_i hh' hhi
              split at hb
              · cases hb
              · rename_i l' hlo
                simp only [Option.some.injEq, Prod.mk.injEq] at hb
                obtain ⟨rfl, rfl⟩ := hb
                have g1 := bndV_le (Nat.zero_le _) hlo
                have g2 := bndV_le (Nat.le_refl _) hhi
                have hb' : bnds len c' (oOpt ρ' lo) (oOpt ρ' hi) (oOpt ρ' none) = some (l', hh', c') := by
                  have e1 := bndV_sim s hhi
                  have e2 := bndV_sim s hlo
                  have e3 : bndV len c' (oOpt ρ' hi) = some hh' := by
                    unfold bndV at e1 ⊢
                    split at e1
                    · exact e1
                    · split at e1
                      · rename_i hc; rw [if_pos ⟨hc.1, by omega⟩]; exact e1
                      · cases e1
                    · cases e1
                  have e4 : bnds len c' (oOpt ρ' lo) (oOpt ρ' hi) (oOpt ρ' none) = (match bndV len c' (oOpt ρ' hi) with | none => none | some h => match bndV 0 h (oOpt ρ' lo) with | none => none | some l => some (l, h, c')) := rfl
                  rw [e4, e3]
                  simp only [e2]
                refine ⟨.slice (some (if c' = l' then ⟨k.b, o, none⟩ else (⟨k.b, o, none⟩ : Addr).add (l' * size))) (hh' - l') (c' - l'), ?_, ?_⟩
                · simp only [pureV, h1, hb']
                  split <;> rfl
                · have a1 := add_off a (l' * size)
                  have a2 := add_block a (l' * size)
                  by_cases e : c' = l'
                  · subst e
                    rw [if_pos rfl]
                    refine .one (.one (.base (.slice hsa (by rw [a2]; exact hk) (by omega) (fun z => absurd z hne) (fun _ => ⟨?_, fun z => absurd (Nat.sub_self _) z⟩))))
                    rw [a1, Nat.sub_self, Nat.zero_mul, ← hes]; omega
                  · rw [if_neg e, add_none]
                    have ho := w2 (by omega)
                    subst ho
                    refine .one (.one (.base (.slice hsa (by rw [a2]; exact hk) (by omega) (fun z => absurd z hne) (fun _ => ⟨?_, fun _ => ?_⟩))))
                    · rw [a1, ← hes, ← w1, Nat.sub_mul]
                      have : l' * k.es ≤ c' * k.es := Nat.mul_le_mul_right _ (by omega)
                      omega
                    · rw [a1]; omega
          · cases e
    · cases e
  · cases e
end
end Go.Bb
