/- Reckoning: the rest of what changes nothing. -/
import Derived.Test.YtgoifophjcbpaaaBbXt
namespace Go.Bb
set_option linter.unusedVariables false
set_option linter.unusedSimpArgs false

section
variable {fid : Nat → Option FuncId} {r : Rr} {m : VM} {h : Heap} {ρ ρ' : Opd → Option Value} {v : Value}

theorem unV_plain {op : UnOp} {x v : Value} (e : unV op x = some v) : plain x = true ∧ plain v = true := by
  unfold unV at e
  split at e <;> first
    | (simp at e; done)
    | (simp at e; subst e; exact ⟨rfl, rfl⟩)

theorem eqV_sim {k : EqK} {a b a' b' : Value} {q : Bool} (ha : VR fid r a a') (hb : VR fid r b b') (e : eqV k a b = some q) : eqV k a' b' = some q := by
  have isn : ∀ {x : Option Addr} {w : Value}, VR fid r (.pointer x) w → ∃ y, w = .pointer y ∧ y.isNone = x.isNone := by
    intro x w hw
    cases x with
    | none => exact ⟨none, hw.of_ptr0, rfl⟩
    | some x => obtain ⟨k, _, _, rfl⟩ := hw.of_ptr; exact ⟨_, rfl, rfl⟩
  have iss : ∀ {x : Option Addr} {n c : Nat} {w : Value}, VR fid r (.slice x n c) w → ∃ y n' c', w = .slice y n' c' ∧ y.isNone = x.isNone := by
    intro x n c w hw
    cases x with
    | none => exact ⟨none, _, _, hw.of_sl0, rfl⟩
    | some x => obtain ⟨k, _, _, _, _, rfl, _⟩ := hw.of_sl; exact ⟨_, _, _, rfl, rfl⟩
  have ism : ∀ {x : Option Nat} {w : Value}, VR fid r (.map x) w → ∃ y, w = .map y ∧ y.isNone = x.isNone := by
    intro x w hw
    cases x with
    | none => exact ⟨none, hw.of_map0, rfl⟩
    | some x => obtain ⟨k, _, rfl⟩ := hw.of_map; exact ⟨_, rfl, rfl⟩
  unfold eqV at e
  split at e
  · rw [ha.of_bool, hb.of_bool]; exact e
  · rw [ha.of_ptr0]; obtain ⟨y, rfl, hy⟩ := isn hb; simp only [eqV, hy]; exact e
  · obtain ⟨y, rfl, hy⟩ := isn ha; rw [hb.of_ptr0]
    cases y with
    | none => simp at hy
    | some y => exact e
  · rw [ha.of_sl0]; obtain ⟨y, _, _, rfl, hy⟩ := iss hb; simp only [eqV, hy]; exact e
  · obtain ⟨y, _, _, rfl, hy⟩ := iss ha; rw [hb.of_sl0]
    cases y with
    | none => simp at hy
    | some y => exact e
  · rw [ha.of_map0]; obtain ⟨y, rfl, hy⟩ := ism hb; simp only [eqV, hy]; exact e
  · obtain ⟨y, rfl, hy⟩ := ism ha; rw [hb.of_map0]
    cases y with
    | none => simp at hy
    | some y => exact e
  · rw [ha.of_plain rfl, hb.of_plain rfl]; exact e
  · rw [ha.of_plain rfl]; obtain ⟨n, g, a', c', _, _, rfl, _⟩ := hb.of_fn; exact e
  · rw [hb.of_plain rfl]; obtain ⟨n, g, a', c', _, _, rfl, _⟩ := ha.of_fn; exact e
  · cases e

theorem rest_eqv (s : Sim fid r ρ ρ') {k : EqK} {ne : Bool} {x y : Opd} (e : oRest (.eqv k ne x y) ρ m = some v) : ∃ v', pureV fid ρ' h (.eqv k ne x y) = some v' ∧ VR fid r v v' := by
  simp only [oRest, pureV] at e
  split at e
  · rename_i a b ha hb
    rw [Option.map_eq_some_iff] at e
    obtain ⟨q, hq, rfl⟩ := e
    obtain ⟨a', g1, g2⟩ := s x _ ha
    obtain ⟨b', g3, g4⟩ := s y _ hb
    exact ⟨_, by simp only [pureV, g1, g3, eqV_sim g2 g4 hq, Option.map_some], .bool⟩
  · cases e
theorem rest_eqa (s : Sim fid r ρ ρ') {ks : List (Option IntKind)} {ne : Bool} {x y : Opd} (e : oRest (.eqa ks ne x y) ρ m = some v) : ∃ v', pureV fid ρ' h (.eqa ks ne x y) = some v' ∧ VR fid r v v' := by
  simp only [oRest, pureV] at e
  split at e
  · rename_i a b ha hb
    split at e
    · rename_i hc
      simp only [Option.some.injEq] at e; subst e
      have hc' := hc
      simp only [Bool.and_eq_true] at hc'
      obtain ⟨a', g1, g2⟩ := s x _ ha
      obtain ⟨b', g3, g4⟩ := s y _ hb
      obtain ⟨aa, rfl, ga⟩ := g2.of_agg
      obtain ⟨bb, rfl, gb⟩ := g4.of_agg
      have e1 := leaves_eq hc'.1 ga
      have e2 := leaves_eq hc'.2 gb
      rw [show aa = a from Array.ext' e1] at g1
      rw [show bb = b from Array.ext' e2] at g3
      exact ⟨_, by simp only [pureV, g1, g3]; rw [if_pos hc], .bool⟩
    · cases e
  · cases e
theorem rest_un (s : Sim fid r ρ ρ') {op : UnOp} {x : Opd} (e : oRest (.un op x) ρ m = some v) : ∃ v', pureV fid ρ' h (.un op x) = some v' ∧ VR fid r v v' := by
  simp only [oRest, pureV] at e
  split at e
  · rename_i a ha
    obtain ⟨p1, p2⟩ := unV_plain e
    exact ⟨v, by simp only [pureV, s.plain' ha p1, e], .plain p2⟩
  · cases e
theorem rest_strId (s : Sim fid r ρ ρ') {x : Opd} (e : oRest (.strId x) ρ m = some v) : ∃ v', pureV fid ρ' h (.strId x) = some v' ∧ VR fid r v v' := by
  simp only [oRest, pureV] at e
  split at e
  · rename_i b hb
    simp only [Option.some.injEq] at e; subst e
    exact ⟨_, by simp only [pureV, s.str hb], .plain rfl⟩
  · cases e
theorem rest_idxA (s : Sim fid r ρ ρ') {n size : Nat} {k : Option Nat} {x i : Opd} (e : oRest (.idxA n size k x i) ρ m = some v) : ∃ v', pureV fid ρ' h (.idxA n size k x i) = some v' ∧ VR fid r v v' := by
  simp only [oRest, pureV] at e
  split at e
  · rename_i cs kk j hx hi
    split at e
    · rename_i hc
      obtain ⟨a', g1, g2⟩ := s x _ hx
      obtain ⟨aa, rfl, ga⟩ := g2.of_agg
      obtain ⟨v', q1, q2⟩ := part_sim ga e
      exact ⟨v', by simp only [pureV, g1, s.int hi]; rw [if_pos hc]; exact q1, q2⟩
    · cases e
  · cases e
theorem rest_idxS (s : Sim fid r ρ ρ') {x i : Opd} (e : oRest (.idxS x i) ρ m = some v) : ∃ v', pureV fid ρ' h (.idxS x i) = some v' ∧ VR fid r v v' := by
  simp only [oRest, pureV] at e
  split at e
  · rename_i b kk j hx hi
    split at e
    · rename_i hc
      have e' := e
      rw [Option.map_eq_some_iff] at e
      obtain ⟨q, hq, rfl⟩ := e
      exact ⟨_, by simp only [pureV, s.str hx, s.int hi]; rw [if_pos hc]; exact e', .int⟩
    · cases e
  · cases e
theorem rest_lenStr (s : Sim fid r ρ ρ') {x : Opd} (e : oRest (.lenStr x) ρ m = some v) : ∃ v', pureV fid ρ' h (.lenStr x) = some v' ∧ VR fid r v v' := by
  simp only [oRest, pureV] at e
  split at e
  · rename_i b hb
    simp only [Option.some.injEq] at e; subst e
    exact ⟨_, by simp only [pureV, s.str hb], .int⟩
  · cases e
theorem rest_mn (s : Sim fid r ρ ρ') {x y : Opd} (e : oRest (.mn x y) ρ m = some v) : ∃ v', pureV fid ρ' h (.mn x y) = some v' ∧ VR fid r v v' := by
  simp only [oRest, pureV] at e
  split at e
  · rename_i k a k' b ha hb
    simp only [Option.some.injEq] at e; subst e
    exact ⟨_, by simp only [pureV, s.int ha, s.int hb], .int⟩
  · cases e
theorem rest_mx (s : Sim fid r ρ ρ') {x y : Opd} (e : oRest (.mx x y) ρ m = some v) : ∃ v', pureV fid ρ' h (.mx x y) = some v' ∧ VR fid r v v' := by
  simp only [oRest, pureV] at e
  split at e
  · rename_i k a k' b ha hb
    simp only [Option.some.injEq] at e; subst e
    exact ⟨_, by simp only [pureV, s.int ha, s.int hb], .int⟩
  · cases e
theorem rest_slStr (s : Sim fid r ρ ρ') {x : Opd} {lo hi : Option Opd} (e : oRest (.slStr x lo hi) ρ m = some v) : ∃ v', pureV fid ρ' h (.slStr x lo hi) = some v' ∧ VR fid r v v' := by
  simp only [oRest, pureV] at e
  split at e
  · rename_i b hb
    split at e
    · rename_i l hh q hbn
      simp only [Option.some.injEq] at e; subst e
      have : bnds b.size b.size (oOpt ρ' lo) (oOpt ρ' hi) none = some (l, hh, q) := bnds_sim (mx := none) s hbn
      exact ⟨_, by simp only [pureV, s.str hb, this], .plain rfl⟩
    · cases e
  · cases e
end
end Go.Bb
