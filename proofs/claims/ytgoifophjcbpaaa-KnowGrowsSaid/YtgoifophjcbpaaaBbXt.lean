/- Reckoning: functions as values, maps read, the rest of what changes nothing. -/
import Derived.Test.YtgoifophjcbpaaaBbXs
namespace Go.Bb
set_option linter.unusedVariables false
set_option linter.unusedSimpArgs false

section
variable {fid : Nat → Option FuncId} {r : Rr} {m : VM} {h : Heap} {ρ ρ' : Opd → Option Value} {v : Value}

theorem VR.cap {v v' : Value} (p : VR fid r v v') (c : capOk v = true) : VRb r v v' := by
  cases p with
  | one p => cases p with
    | one p => cases p with
      | base p => exact p
      | func _ _ _ => cases c
    | agg _ => cases c
  | tup _ => cases c
theorem cap_all : ∀ {l l' : List Value}, All2 (VR fid r) l l' → l.all capOk = true → All2 (VRb r) l l'
  | [], _, .nil, _ => .nil
  | v :: vs, _, .cons hv ht, c => by
    simp only [List.all_cons, Bool.and_eq_true] at c
    exact .cons (hv.cap c.1) (cap_all ht c.2)
theorem plain_all : ∀ {l l' : List Value}, All2 (VR0 fid r) l l' → l.all plain = true → l' = l
  | [], _, .nil, _ => rfl
  | v :: vs, _, .cons hv ht, c => by
    simp only [List.all_cons, Bool.and_eq_true] at c
    rw [plain_all ht c.2, VR.of_plain (.one (.one hv)) c.1]
theorem VR.of_const {v v' : Value} (p : VR fid r v v') (c : constOk v = true) : v' = v := by
  cases v with
  | agg a =>
    obtain ⟨a', rfl, ha⟩ := p.of_agg
    have := plain_all ha c
    rw [show a' = a from Array.ext' this]
  | _ => exact p.of_plain c
theorem plain_refl : ∀ {l : List Value}, l.all plain = true → All2 (VR0 fid r) l l
  | [], _ => .nil
  | v :: vs, c => by
    simp only [List.all_cons, Bool.and_eq_true] at c
    exact .cons (.base (.plain c.1)) (plain_refl c.2)
theorem VR1.const {v : Value} (c : constOk v = true) : VR1 fid r v v := by
  cases v with
  | agg a => exact .agg (plain_refl c)
  | _ => exact .one (.base (.plain c))

/-- Numbers that the table has are the program's. -/
def Has (has : Nat → Bool) (fid : Nat → Option FuncId) : Prop := ∀ n, has n = true → ∃ g, fid n = some g

theorem oFn_sim {has : Nat → Bool} (hh : Has has fid) (s : Sim fid r ρ ρ') {n : Nat} {a b : List Opd} (e : oFn has n a b ρ m = some v) : ∃ v', pureV fid ρ' h (.fn n a b) = some v' ∧ VR fid r v v' := by
  unfold oFn at e
  split at e
  · rename_i x y hx hy
    cases hc : (has n && (x.all capOk && y.all capOk)) with
    | false => rw [hc] at e; cases e
    | true =>
      rw [hc] at e; simp only [cond_true, Option.some.injEq] at e; subst e
      simp only [Bool.and_eq_true] at hc
      obtain ⟨hc0, hc⟩ := hc
      obtain ⟨g, hg⟩ := hh n hc0
      obtain ⟨x', g1, g2⟩ := s.allV hx
      obtain ⟨y', g3, g4⟩ := s.allV hy
      exact ⟨.func (.func g) x'.toArray y'.toArray, by simp only [pureV, hg, g1, g3], .one (.one (.func hg (by simpa using cap_all g2 hc.1) (by simpa using cap_all g4 hc.2)))⟩
  · cases e

theorem oLook_sim (s : Sim fid r ρ ρ') (p : HR fid r m h) {kt : KeyT} {z : Value} {ok : Bool} {x k : Opd} (e : oLook kt z ok x k ρ m = some v) : ∃ v', pureV fid ρ' h (.lookup kt z ok x k) = some v' ∧ VR fid r v v' := by
  unfold oLook at e
  split at e
  · rename_i u kv hu hk
    cases hz : constOk z with
    | false => rw [hz] at hu; cases hu
    | true =>
      rw [hz] at hu; simp only [cond_true] at hu
      cases hkv : constOk kv with
      | false => rw [hkv] at e; cases e
      | true =>
        rw [hkv] at e; simp only [cond_true] at e
        obtain ⟨u', h1, h2⟩ := s x _ hu
        obtain ⟨kv', h3, h4⟩ := s k _ hk
        rw [h4.of_const hkv] at h3
        have rel : ∀ (w w' : Value) (b : Bool), VR1 fid r w w' → VR fid r (if ok = true then Value.tuple #[w, .bool b] else w) (if ok = true then Value.tuple #[w', .bool b] else w') := by
          intro w w' b hw
          cases ok with
          | true => exact .tup (.cons hw (.cons (.one (.base (.plain rfl))) .nil))
          | false => exact .one hw
        split at e
        · rename_i hm
          rw [vMap_some hm] at h2
          rw [h2.of_map0] at h1
          rw [Option.map_eq_some_iff] at e
          obtain ⟨q, hq, rfl⟩ := e
          exact ⟨_, by simp only [pureV, h1, h3, hq, Option.map_some], rel z z false (VR1.const hz)⟩
        · rename_i b hm
          rw [vMap_some hm] at h2
          obtain ⟨kk, hb, rfl⟩ := h2.of_map
          split at e
          · rename_i es c hx
            obtain ⟨y, hy, hbr⟩ := HR.at (p := p) hb hx
            cases hbr with
            | map he =>
              unfold foundE at e
              split at e
              · rename_i hf hfi
                simp only [Option.some.injEq] at e; subst e
                rcases findV_sim he hfi with ⟨q, _⟩ | ⟨j, w, w', q, g1, g2⟩
                · cases q
                · simp only [Option.some.injEq, Prod.mk.injEq] at q
                  obtain ⟨rfl, rfl⟩ := q
                  exact ⟨_, by simp only [pureV, h1, h3, mapAt, hy, hf, g1], rel _ _ true g2⟩
              · rename_i hf hfi
                simp only [Option.some.injEq] at e; subst e
                rcases findV_sim he hfi with ⟨_, g1⟩ | ⟨j, w, w', q, _, _⟩
                · exact ⟨_, by simp only [pureV, h1, h3, mapAt, hy, hf, g1], rel z z false (VR1.const hz)⟩
                · cases q
              · cases e
          · cases e
        · cases e
  · cases e
end
end Go.Bb
